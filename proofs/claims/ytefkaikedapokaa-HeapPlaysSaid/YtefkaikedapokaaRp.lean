/- HeapPlays: what each call comes to, in the list of the blocks in use; the contracts of package heap in these words. -/
import Derived.Test.YtefkaikedapokaaRc
namespace Go.Proofs.Ytefkaikedapokaa
open Go.RowKit
set_option linter.unusedSimpArgs false
set_option linter.unusedVariables false

theorem addr_inj {k i k' i' : Nat} (hk : k < 4) (hi : i < nb k) (hk' : k' < 4) (hi' : i' < nb k') (e : addr k i = addr k' i') : k = k' ∧ i = i' := by
  rcases Classical.em (k = k' ∧ i = i') with h | h
  · exact h
  · have h1 := block_apart k i k' i' hk hi hk' hi' h
    have h2 := (addr_bd k i hk hi).2.2.2.1
    have h3 := (addr_bd k' i' hk' hi').2.2.2.1
    omega
/-- Every address of the heap lies in one block. -/
theorem addr_split (x : Int) (h0 : 262144 ≤ x) (h1 : x < 273408) : ∃ (k i : Nat) (r : Int), k < 4 ∧ i < nb k ∧ 0 ≤ r ∧ r < 4 * (sz k : Nat) ∧ x = (addr k i : Nat) + r := by
  by_cases c0 : x < 263168
  · refine ⟨0, ((x - 262144) / 16).toNat, (x - 262144) % 16, by omega, ?_, by omega, ?_, ?_⟩
    · show _ < 64; omega
    · show _ < 4 * ((4 : Nat) : Int); omega
    · rw [addr_0]; omega
  by_cases c1 : x < 265216
  · refine ⟨1, ((x - 263168) / 64).toNat, (x - 263168) % 64, by omega, ?_, by omega, ?_, ?_⟩
    · show _ < 32; omega
    · show _ < 4 * ((16 : Nat) : Int); omega
    · rw [addr_1]; omega
  by_cases c2 : x < 269312
  · refine ⟨2, ((x - 265216) / 256).toNat, (x - 265216) % 256, by omega, ?_, by omega, ?_, ?_⟩
    · show _ < 16; omega
    · show _ < 4 * ((64 : Nat) : Int); omega
    · rw [addr_2]; omega
  · refine ⟨3, ((x - 269312) / 512).toNat, (x - 269312) % 512, by omega, ?_, by omega, ?_, ?_⟩
    · show _ < 8; omega
    · show _ < 4 * ((128 : Nat) : Int); omega
    · rw [addr_3]; omega

structure Ix (L : List (Nat × Nat)) (u : Nat → Nat → Bool) : Prop where
  inv : Inv L u
  full : ∀ k i, k < 4 → i < nb k → u k i = true → (k, i) ∈ L
theorem ix_nil : Ix [] (fun _ _ => false) := by
  refine ⟨⟨fun p h => (by cases h), List.nodup_nil, fun k _ => ?_⟩, fun k i _ _ h => by cases h⟩
  have : ∀ n, cnt (fun _ => false) n = 0 := fun n => by induction n with | zero => rfl | succ n ih => rw [cnt_no rfl, ih]
  rw [this]; rfl
theorem ix_add {L : List (Nat × Nat)} {u : Nat → Nat → Bool} (h : Ix L u) {k i : Nat} (hk : k < 4) (hi : i < nb k) (hu : u k i = false) : Ix (L ++ [(k, i)]) (upd u k i true) := by
  refine ⟨inv_add h.inv hk hi hu, fun k' i' hk' hi' hu' => ?_⟩
  by_cases e : k' = k ∧ i' = i
  · simp [e.1, e.2]
  · unfold upd at hu'
    rw [if_neg e] at hu'
    exact List.mem_append_left _ (h.full k' i' hk' hi' hu')
theorem ix_del {A B : List (Nat × Nat)} {k i : Nat} {u : Nat → Nat → Bool} (h : Ix (A ++ (k, i) :: B) u) : Ix (A ++ B) (upd u k i false) := by
  refine ⟨inv_del h.inv, fun k' i' hk' hi' hu' => ?_⟩
  by_cases e : k' = k ∧ i' = i
  · unfold upd at hu'
    rw [if_pos e] at hu'
    cases hu'
  · unfold upd at hu'
    rw [if_neg e] at hu'
    have := h.full k' i' hk' hi' hu'
    rcases List.mem_append.1 this with m | m
    · exact List.mem_append_left _ m
    · rcases List.mem_cons.1 m with m | m
      · injection m with e1 e2; exact absurd ⟨e1, e2⟩ e
      · exact List.mem_append_right _ m

/-- Alloc. -/
inductive AllocTo (L : List (Nat × Nat)) (u : Nat → Nat → Bool) (n : Int) : Int → Int → List (Nat × Nat) → (Nat → Nat → Bool) → Prop
  | bad (h : n < 0 ∨ 128 < n) : AllocTo L u n 0 2 L u
  | full (h0 : 0 ≤ n) (h1 : n ≤ 128) (h : ∀ j, j < nb (cl n) → u (cl n) j = true) : AllocTo L u n 0 12 L u
  | one (h0 : 0 ≤ n) (h1 : n ≤ 128) (m : Nat) (hm : m < nb (cl n)) (hf : u (cl n) m = false) (ha : ∀ j, j < m → u (cl n) j = true) : AllocTo L u n (addr (cl n) m : Nat) 0 (L ++ [(cl n, m)]) (upd u (cl n) m true)
theorem alloc_to {L : List (Nat × Nat)} {u : Nat → Nat → Bool} (h : Ix L u) (n : Int) : ∃ x e L' u', AllocTo L u n x e L' u' ∧ Ix L' u' ∧ L'.length ≤ L.length + 1 := by
  by_cases hb : n < 0 ∨ 128 < n
  · exact ⟨_, _, _, _, .bad hb, h, by omega⟩
  by_cases hf : cnt (u (cl n)) (nb (cl n)) = nb (cl n)
  · exact ⟨_, _, _, _, .full (by omega) (by omega) (cnt_all hf), h, by omega⟩
  · obtain ⟨m, h1, h2, h3⟩ := cnt_first hf
    exact ⟨_, _, _, _, .one (by omega) (by omega) m h1 h2 h3, ix_add h (cl_lt n) h1 h2, by simp⟩
theorem palloc {L L' : List (Nat × Nat)} {u u' : Nat → Nat → Bool} {n x e : Int} (h : AllocTo L u n x e L' u') (g : Nat) (a : Nat → Nat) (w : World) (hH : HeapAt w g a u) :
    Calls Try.prog 8 #[.pointer (some ⟨g, 0, none⟩), .int .i64 n] w fun r w' => r = .returned (.tuple #[.int .i64 x, .int .i64 e]) ∧ HeapAt w' g a u' ∧ Hb a w w' := by
  cases h with
  | bad hb =>
    rcases hb with hb | hb
    · exact (alloc_neg n hb g a u w hH).mono fun r w' ⟨h1, h2⟩ => ⟨h1, hH.below h2, Hb.of_below h2⟩
    · exact (alloc_big n hb g a u w hH).mono fun r w' ⟨h1, h2⟩ => ⟨h1, hH.below h2, Hb.of_below h2⟩
  | full h0 h1 hf => exact (alloc_none g a u w hH n h0 h1 hf).mono fun r w' ⟨h1, h2⟩ => ⟨h1, hH.below h2, Hb.of_below h2⟩
  | one h0 h1 m hm hf ha => exact alloc_any g a u w hH n h0 h1 m hm hf ha

/-- Free. -/
inductive FreeTo (L : List (Nat × Nat)) (u : Nat → Nat → Bool) (x : Int) : Int → List (Nat × Nat) → (Nat → Nat → Bool) → Prop
  | no (h : ∀ p ∈ L, ((addr p.1 p.2 : Nat) : Int) ≠ x) : FreeTo L u x 13 L u
  | yes (A B : List (Nat × Nat)) (k i : Nat) (hL : L = A ++ (k, i) :: B) (hx : x = (addr k i : Nat)) : FreeTo L u x 0 (A ++ B) (upd u k i false)
theorem free_to {L : List (Nat × Nat)} {u : Nat → Nat → Bool} (h : Ix L u) (x : Int) : ∃ e L' u', FreeTo L u x e L' u' ∧ Ix L' u' ∧ L'.length ≤ L.length := by
  by_cases hx : ∃ p ∈ L, ((addr p.1 p.2 : Nat) : Int) = x
  · obtain ⟨⟨k, i⟩, hp, hx⟩ := hx
    obtain ⟨A, B, rfl⟩ := List.append_of_mem hp
    exact ⟨_, _, _, .yes A B k i rfl hx.symm, ix_del h, by simp⟩
  · exact ⟨_, _, _, .no fun p hp e => hx ⟨p, hp, e⟩, h, by omega⟩
theorem pfree_no {u : Nat → Nat → Bool} (x : Int) (hno : ∀ k i, k < 4 → i < nb k → u k i = true → ((addr k i : Nat) : Int) ≠ x) (g : Nat) (a : Nat → Nat) (w : World) (hH : HeapAt w g a u) :
    Calls Try.prog 10 #[.pointer (some ⟨g, 0, none⟩), .int .i64 x] w fun e w' => e = .returned (.int .i64 13) ∧ Below w.heap.size w w' := by
  by_cases c0 : x < 262144
  · exact free_lo x c0 g a u w hH
  by_cases c1 : 273408 ≤ x
  · exact free_hi x c1 g a u w hH
  obtain ⟨k, i, r, hk, hi, r0, r1, hx⟩ := addr_split x (by omega) (by omega)
  cases hu : u k i with
  | false =>
    match k, hk with
    | 0, _ => exact free_no_0 x i r (by rw [addr_0] at hx; exact hx) hi r0 (by simpa [sz] using r1) g a u w hH hu
    | 1, _ => exact free_no_1 x i r (by rw [addr_1] at hx; exact hx) hi r0 (by simpa [sz] using r1) g a u w hH hu
    | 2, _ => exact free_no_2 x i r (by rw [addr_2] at hx; exact hx) hi r0 (by simpa [sz] using r1) g a u w hH hu
    | 3, _ => exact free_no_3 x i r (by rw [addr_3] at hx; exact hx) hi r0 (by simpa [sz] using r1) g a u w hH hu
  | true =>
    have hr : r ≠ 0 := fun e => hno k i hk hi hu (by omega)
    match k, hk with
    | 0, _ => exact free_off_0 x i r (by rw [addr_0] at hx; exact hx) hi r0 (by simpa [sz] using r1) g a u w hH hu hr
    | 1, _ => exact free_off_1 x i r (by rw [addr_1] at hx; exact hx) hi r0 (by simpa [sz] using r1) g a u w hH hu hr
    | 2, _ => exact free_off_2 x i r (by rw [addr_2] at hx; exact hx) hi r0 (by simpa [sz] using r1) g a u w hH hu hr
    | 3, _ => exact free_off_3 x i r (by rw [addr_3] at hx; exact hx) hi r0 (by simpa [sz] using r1) g a u w hH hu hr
theorem pfree {L L' : List (Nat × Nat)} {u u' : Nat → Nat → Bool} {x e : Int} (h : FreeTo L u x e L' u') (hI : Ix L u) (g : Nat) (a : Nat → Nat) (w : World) (hH : HeapAt w g a u) :
    Calls Try.prog 10 #[.pointer (some ⟨g, 0, none⟩), .int .i64 x] w fun r w' => r = .returned (.int .i64 e) ∧ HeapAt w' g a u' ∧ Hb a w w' := by
  cases h with
  | no hno => exact (pfree_no x (fun k i hk hi hu => hno (k, i) (hI.full k i hk hi hu)) g a w hH).mono fun r w' ⟨h1, h2⟩ => ⟨h1, hH.below h2, Hb.of_below h2⟩
  | yes A B k i hL hx =>
    obtain ⟨v1, v2, v3⟩ := hI.inv.valid (k, i) (by rw [hL]; simp)
    subst hx
    exact free_any g a u w hH k i v1 v2 v3

/-- Live. -/
def liveOf (L : List (Nat × Nat)) (k : Int) : Int := (L.countP (fun p => ((p.1 : Nat) : Int) == k) : Nat)
theorem plive {L : List (Nat × Nat)} {u : Nat → Nat → Bool} (hI : Ix L u) (k : Int) (g : Nat) (a : Nat → Nat) (w : World) (hH : HeapAt w g a u) :
    Calls Try.prog 9 #[.pointer (some ⟨g, 0, none⟩), .int .i64 k] w fun r w' => r = .returned (.int .i64 (liveOf L k)) ∧ w = w' := by
  have hz : k < 0 ∨ 4 ≤ k → liveOf L k = 0 := fun hk => by
    unfold liveOf
    rw [List.countP_eq_zero.2]
    · rfl
    · intro p hp
      have := (hI.inv.valid p hp).1
      simp; omega
  by_cases h0 : k < 0
  · rw [hz (Or.inl h0)]; exact live_lo k h0 g a u w hH
  by_cases h1 : 4 ≤ k
  · rw [hz (Or.inr h1)]; exact live_hi k h1 g a u w hH
  obtain ⟨K, rfl⟩ := Int.eq_ofNat_of_zero_le (show 0 ≤ k by omega)
  refine live_any g a u w hH K (by omega) _ ?_
  unfold liveOf
  rw [hI.inv.count K (by omega)]
  congr 2
  funext p
  rw [Bool.eq_iff_iff]
  simp
  omega

/-- Within. -/
def holds (x m : Int) (p : Nat × Nat) : Bool := decide (x % 4 = 0 ∧ 1 ≤ m ∧ ((addr p.1 p.2 : Nat) : Int) ≤ x ∧ x < ((addr p.1 p.2 : Nat) : Int) + 4 * (sz p.1 : Nat) ∧ m ≤ ((sz p.1 : Nat) : Int) - (x - (addr p.1 p.2 : Nat)) / 4)
def inside (L : List (Nat × Nat)) (x m : Int) : Bool := L.any (holds x m)
theorem inside_no {L : List (Nat × Nat)} {x m : Int} (h : ∀ p ∈ L, holds x m p = false) : inside L x m = false := by
  unfold inside
  rw [List.any_eq_false]
  intro p hp; rw [h p hp]; simp
theorem pwithin {L : List (Nat × Nat)} {u : Nat → Nat → Bool} (hI : Ix L u) (x m : Int) (g : Nat) (a : Nat → Nat) (w : World) (hH : HeapAt w g a u) :
    Calls Try.prog 16 #[.pointer (some ⟨g, 0, none⟩), .int .i64 x, .int .i64 m] w fun r w' => r = .returned (.bool (inside L x m)) ∧ Below w.heap.size w w' := by
  have hbd : ∀ p ∈ L, 262144 ≤ addr p.1 p.2 ∧ addr p.1 p.2 + 4 * sz p.1 ≤ 273408 := fun p hp => by
    obtain ⟨v1, v2, _⟩ := hI.inv.valid p hp
    exact ⟨(addr_bd _ _ v1 v2).1, (addr_bd _ _ v1 v2).2.1⟩
  by_cases hn : x < 0
  · rw [inside_no fun p hp => decide_eq_false fun ⟨_, _, h3, _⟩ => by have := hbd p hp; omega]
    by_cases h4 : x.tmod 4 = 0
    · by_cases hm : m < 1
      · exact within_neg2 x m hn h4 hm g a u w hH
      · exact within_neg3 x m hn h4 (by omega) g a u w hH
    · exact within_neg1 x m hn h4 g a u w hH
  by_cases h4 : x % 4 = 0
  case neg =>
    rw [inside_no fun p hp => decide_eq_false fun ⟨h1, _⟩ => h4 h1]
    exact within_mis x m (by omega) h4 g a u w hH
  by_cases hm : m < 1
  · rw [inside_no fun p hp => decide_eq_false fun ⟨_, h2, _⟩ => by omega]
    exact within_few x m (by omega) h4 hm g a u w hH
  by_cases c0 : x < 262144
  · rw [inside_no fun p hp => decide_eq_false fun ⟨_, _, h3, _⟩ => by have := hbd p hp; omega]
    exact within_lo x m (by omega) c0 h4 (by omega) g a u w hH
  by_cases c1 : 273408 ≤ x
  · rw [inside_no fun p hp => decide_eq_false fun ⟨_, _, _, h3, _⟩ => by have := hbd p hp; omega]
    exact within_hi x m c1 h4 (by omega) g a u w hH
  obtain ⟨k, i, r, hk, hi, r0, r1, hx⟩ := addr_split x (by omega) (by omega)
  have hone : ∀ p ∈ L, holds x m p = true → p = (k, i) := fun p hp h => by
    obtain ⟨_, _, h3, h5, _⟩ := of_decide_eq_true h
    obtain ⟨v1, v2, _⟩ := hI.inv.valid p hp
    rcases Classical.em (p.1 = k ∧ p.2 = i) with e | e
    · exact Prod.ext e.1 e.2
    · have := block_apart p.1 p.2 k i v1 v2 hk hi e
      omega
  cases hu : u k i with
  | false =>
    have hno : (k, i) ∉ L := fun hm' => by have := (hI.inv.valid _ hm').2.2; rw [hu] at this; cases this
    rw [inside_no fun p hp => by
      cases hh : holds x m p with
      | false => rfl
      | true => exact absurd (hone p hp hh ▸ hp) hno]
    match k, hk with
    | 0, _ => exact within_no_0 x i r (by rw [addr_0] at hx; exact hx) hi r0 (by simpa [sz] using r1) m h4 (by omega) g a u w hH hu
    | 1, _ => exact within_no_1 x i r (by rw [addr_1] at hx; exact hx) hi r0 (by simpa [sz] using r1) m h4 (by omega) g a u w hH hu
    | 2, _ => exact within_no_2 x i r (by rw [addr_2] at hx; exact hx) hi r0 (by simpa [sz] using r1) m h4 (by omega) g a u w hH hu
    | 3, _ => exact within_no_3 x i r (by rw [addr_3] at hx; exact hx) hi r0 (by simpa [sz] using r1) m h4 (by omega) g a u w hH hu
  | true =>
    have hmem := hI.full k i hk hi hu
    have hin : inside L x m = decide (m ≤ ((sz k : Nat) : Int) - r / 4) := by
      rw [Bool.eq_iff_iff, decide_eq_true_iff]
      unfold inside
      rw [List.any_eq_true]
      have e : x - ((addr k i : Nat) : Int) = r := by omega
      constructor
      · rintro ⟨p, hp, hh⟩
        have e1 := hone p hp hh
        subst e1
        have := (of_decide_eq_true hh).2.2.2.2
        simpa [e] using this
      · intro h
        exact ⟨(k, i), hmem, decide_eq_true ⟨h4, by omega, by show ((addr k i : Nat) : Int) ≤ x; omega, by show x < ((addr k i : Nat) : Int) + 4 * ((sz k : Nat) : Int); omega, by show m ≤ ((sz k : Nat) : Int) - (x - (addr k i : Nat)) / 4; rw [e]; exact h⟩⟩
    rw [hin]
    match k, hk with
    | 0, _ => exact within_is_0 x i r (by rw [addr_0] at hx; exact hx) hi r0 (by simpa [sz] using r1) m h4 (by omega) g a u w hH hu
    | 1, _ => exact within_is_1 x i r (by rw [addr_1] at hx; exact hx) hi r0 (by simpa [sz] using r1) m h4 (by omega) g a u w hH hu
    | 2, _ => exact within_is_2 x i r (by rw [addr_2] at hx; exact hx) hi r0 (by simpa [sz] using r1) m h4 (by omega) g a u w hH hu
    | 3, _ => exact within_is_3 x i r (by rw [addr_3] at hx; exact hx) hi r0 (by simpa [sz] using r1) m h4 (by omega) g a u w hH hu

/-- Class. -/
def classV (n : Int) : Value := if n < 0 ∨ 128 < n then .tuple #[.int .i64 0, .int .i64 0, .int .i64 0, .int .i64 2] else .tuple #[.int .i64 (cl n : Nat), .int .i64 (sz (cl n) : Nat), .int .i64 (nb (cl n) : Nat), .int .i64 0]
theorem class_to (n : Int) : ∃ c s b e : Int, classV n = .tuple #[.int .i64 c, .int .i64 s, .int .i64 b, .int .i64 e] := by
  unfold classV
  split
  · exact ⟨_, _, _, _, rfl⟩
  · exact ⟨_, _, _, _, rfl⟩
theorem pclass (n : Int) (w : World) : Calls Try.prog 7 #[.int .i64 n] w fun r w' => r = .returned (classV n) ∧ Below w.heap.size w w' := by
  unfold classV
  by_cases h : n < 0 ∨ 128 < n
  · rw [if_pos h]
    rcases h with h | h
    · exact class_neg n h w
    · exact class_big n h w
  · rw [if_neg h]
    exact class_any n (by omega) (by omega) w
theorem rclass (n : Int) (w : World) : Calls Try.prog 14 #[.int .i64 n] w fun r w' => r = .returned (classV n) ∧ w = w' := by
  unfold classV
  by_cases h : n < 0 ∨ 128 < n
  · rw [if_pos h]
    exact rclass_bad n h w
  · rw [if_neg h]
    exact rclass_any n (by omega) (by omega) w
end Go.Proofs.Ytefkaikedapokaa
