/- One contract a function of package heap, for all classes; append that tells where its row lies; the plain law of blocks. -/
import Derived.Test.YtefkaikedapokaaHi
import Derived.Maps.AppendAt
import Derived.Deep.RegionLaw
namespace Go.Proofs.Ytefkaikedapokaa
open Go.RowKit
set_option linter.unusedSimpArgs false
set_option linter.unusedVariables false

/-- The class of n words. -/
def cl (n : Int) : Nat := if n ≤ 4 then 0 else if n ≤ 16 then 1 else if n ≤ 64 then 2 else 3
theorem cl_lt (n : Int) : cl n < 4 := by unfold cl; repeat' (first | omega | split)
theorem cl_0 {n : Int} (h : n ≤ 4) : cl n = 0 := if_pos h
theorem cl_1 {n : Int} (h : 5 ≤ n) (h1 : n ≤ 16) : cl n = 1 := by unfold cl; rw [if_neg (by omega), if_pos h1]
theorem cl_2 {n : Int} (h : 17 ≤ n) (h1 : n ≤ 64) : cl n = 2 := by unfold cl; rw [if_neg (by omega), if_neg (by omega), if_pos h1]
theorem cl_3 {n : Int} (h : 65 ≤ n) : cl n = 3 := by unfold cl; rw [if_neg (by omega), if_neg (by omega), if_neg (by omega)]
theorem cl_sz {n : Int} (h : n ≤ 128) : n ≤ (sz (cl n) : Nat) := by
  by_cases c0 : n ≤ 4
  · rw [cl_0 c0]; exact c0
  by_cases c1 : n ≤ 16
  · rw [cl_1 (by omega) c1]; exact c1
  by_cases c2 : n ≤ 64
  · rw [cl_2 (by omega) c2]; exact c2
  · rw [cl_3 (by omega)]; exact h
/-- Where block i of class k begins. -/
def addr (k i : Nat) : Nat := bs k + 4 * sz k * i
theorem addr_0 (i : Nat) : ((addr 0 i : Nat) : Int) = 262144 + 16 * (i : Int) := by show ((262144 + 4 * 4 * i : Nat) : Int) = _; omega
theorem addr_1 (i : Nat) : ((addr 1 i : Nat) : Int) = 263168 + 64 * (i : Int) := by show ((263168 + 4 * 16 * i : Nat) : Int) = _; omega
theorem addr_2 (i : Nat) : ((addr 2 i : Nat) : Int) = 265216 + 256 * (i : Int) := by show ((265216 + 4 * 64 * i : Nat) : Int) = _; omega
theorem addr_3 (i : Nat) : ((addr 3 i : Nat) : Int) = 269312 + 512 * (i : Int) := by show ((269312 + 4 * 128 * i : Nat) : Int) = _; omega

section
variable (g : Nat) (a : Nat → Nat) (u : Nat → Nat → Bool) (w : World) (hH : HeapAt w g a u)
theorem class_any (n : Int) (h0 : 0 ≤ n) (h1 : n ≤ 128) (w : World) :
    Calls Try.prog 7 #[.int .i64 n] w fun e w' => e = .returned (.tuple #[.int .i64 (cl n : Nat), .int .i64 (sz (cl n) : Nat), .int .i64 (nb (cl n) : Nat), .int .i64 0]) ∧ Below w.heap.size w w' := by
  by_cases c0 : n ≤ 4
  · rw [cl_0 c0]; exact class_0 n h0 c0 w
  by_cases c1 : n ≤ 16
  · rw [cl_1 (by omega) c1]; exact class_1 n (by omega) c1 w
  by_cases c2 : n ≤ 64
  · rw [cl_2 (by omega) c2]; exact class_2 n (by omega) c2 w
  · rw [cl_3 (by omega)]; exact class_3 n (by omega) h1 w
include hH
theorem alloc_any (n : Int) (h0 : 0 ≤ n) (h1 : n ≤ 128) (i : Nat) (hi : i < nb (cl n)) (hf : u (cl n) i = false) (ha : ∀ j, j < i → u (cl n) j = true) :
    Calls Try.prog 8 #[.pointer (some ⟨g, 0, none⟩), .int .i64 n] w fun e w' => e = .returned (.tuple #[.int .i64 (addr (cl n) i : Nat), .int .i64 0]) ∧ HeapAt w' g a (upd u (cl n) i true) ∧ Hb a w w' := by
  by_cases c0 : n ≤ 4
  · rw [cl_0 c0] at *; rw [addr_0]; exact alloc_in_0 n h0 c0 i hi g a u w hH hf ha
  by_cases c1 : n ≤ 16
  · rw [cl_1 (by omega) c1] at *; rw [addr_1]; exact alloc_in_1 n (by omega) c1 i hi g a u w hH hf ha
  by_cases c2 : n ≤ 64
  · rw [cl_2 (by omega) c2] at *; rw [addr_2]; exact alloc_in_2 n (by omega) c2 i hi g a u w hH hf ha
  · rw [cl_3 (by omega)] at *; rw [addr_3]; exact alloc_in_3 n (by omega) h1 i hi g a u w hH hf ha
theorem alloc_none (n : Int) (h0 : 0 ≤ n) (h1 : n ≤ 128) (ha : ∀ j, j < nb (cl n) → u (cl n) j = true) :
    Calls Try.prog 8 #[.pointer (some ⟨g, 0, none⟩), .int .i64 n] w fun e w' => e = .returned (.tuple #[.int .i64 0, .int .i64 12]) ∧ Below w.heap.size w w' := by
  by_cases c0 : n ≤ 4
  · rw [cl_0 c0] at ha; exact alloc_full_0 n h0 c0 g a u w hH ha
  by_cases c1 : n ≤ 16
  · rw [cl_1 (by omega) c1] at ha; exact alloc_full_1 n (by omega) c1 g a u w hH ha
  by_cases c2 : n ≤ 64
  · rw [cl_2 (by omega) c2] at ha; exact alloc_full_2 n (by omega) c2 g a u w hH ha
  · rw [cl_3 (by omega)] at ha; exact alloc_full_3 n (by omega) h1 g a u w hH ha
theorem live_any (k : Nat) (hk : k < 4) (c : Int) (hc : ((cnt (u k) (nb k) : Nat) : Int) = c) :
    Calls Try.prog 9 #[.pointer (some ⟨g, 0, none⟩), .int .i64 (k : Nat)] w fun e w' => e = .returned (.int .i64 c) ∧ w = w' := by
  subst hc
  match k, hk with
  | 0, _ => exact live_0 g a u w hH
  | 1, _ => exact live_1 g a u w hH
  | 2, _ => exact live_2 g a u w hH
  | 3, _ => exact live_3 g a u w hH
theorem free_any (k i : Nat) (hk : k < 4) (hi : i < nb k) (hu : u k i = true) :
    Calls Try.prog 10 #[.pointer (some ⟨g, 0, none⟩), .int .i64 (addr k i : Nat)] w fun e w' => e = .returned (.int .i64 0) ∧ HeapAt w' g a (upd u k i false) ∧ Hb a w w' := by
  match k, hk, hi, hu with
  | 0, _, hi, hu => exact free_ok_0 _ i (addr_0 i) hi g a u w hH hu
  | 1, _, hi, hu => exact free_ok_1 _ i (addr_1 i) hi g a u w hH hu
  | 2, _, hi, hu => exact free_ok_2 _ i (addr_2 i) hi g a u w hH hu
  | 3, _, hi, hu => exact free_ok_3 _ i (addr_3 i) hi g a u w hH hu
theorem free_none (k i : Nat) (hk : k < 4) (hi : i < nb k) (hu : u k i = false) :
    Calls Try.prog 10 #[.pointer (some ⟨g, 0, none⟩), .int .i64 (addr k i : Nat)] w fun e w' => e = .returned (.int .i64 13) ∧ Below w.heap.size w w' := by
  match k, hk, hi, hu with
  | 0, _, hi, hu => exact free_no_0 _ i 0 (by rw [addr_0]; omega) hi (by omega) (by omega) g a u w hH hu
  | 1, _, hi, hu => exact free_no_1 _ i 0 (by rw [addr_1]; omega) hi (by omega) (by omega) g a u w hH hu
  | 2, _, hi, hu => exact free_no_2 _ i 0 (by rw [addr_2]; omega) hi (by omega) (by omega) g a u w hH hu
  | 3, _, hi, hu => exact free_no_3 _ i 0 (by rw [addr_3]; omega) hi (by omega) (by omega) g a u w hH hu
theorem within_yes (k i : Nat) (m : Int) (hk : k < 4) (hi : i < nb k) (hm : 1 ≤ m) (hm1 : m ≤ (sz k : Nat)) (hu : u k i = true) :
    Calls Try.prog 16 #[.pointer (some ⟨g, 0, none⟩), .int .i64 (addr k i : Nat), .int .i64 m] w fun e w' => e = .returned (.bool true) ∧ Below w.heap.size w w' := by
  match k, hk, hi, hu, hm1 with
  | 0, _, hi, hu, hm1 => have hm1 : m ≤ 4 := hm1
                         have h := within_is_0 (addr 0 i : Nat) i 0 (by rw [addr_0]; omega) hi (by omega) (by omega) m (by rw [addr_0]; omega) hm g a u w hH hu
                         rw [decide_eq_true (by omega)] at h; exact h
  | 1, _, hi, hu, hm1 => have hm1 : m ≤ 16 := hm1
                         have h := within_is_1 (addr 1 i : Nat) i 0 (by rw [addr_1]; omega) hi (by omega) (by omega) m (by rw [addr_1]; omega) hm g a u w hH hu
                         rw [decide_eq_true (by omega)] at h; exact h
  | 2, _, hi, hu, hm1 => have hm1 : m ≤ 64 := hm1
                         have h := within_is_2 (addr 2 i : Nat) i 0 (by rw [addr_2]; omega) hi (by omega) (by omega) m (by rw [addr_2]; omega) hm g a u w hH hu
                         rw [decide_eq_true (by omega)] at h; exact h
  | 3, _, hi, hu, hm1 => have hm1 : m ≤ 128 := hm1
                         have h := within_is_3 (addr 3 i : Nat) i 0 (by rw [addr_3]; omega) hi (by omega) (by omega) m (by rw [addr_3]; omega) hm g a u w hH hu
                         rw [decide_eq_true (by omega)] at h; exact h
theorem within_nay (k i : Nat) (m : Int) (hk : k < 4) (hi : i < nb k) (hm : 1 ≤ m) (hu : u k i = false) :
    Calls Try.prog 16 #[.pointer (some ⟨g, 0, none⟩), .int .i64 (addr k i : Nat), .int .i64 m] w fun e w' => e = .returned (.bool false) ∧ Below w.heap.size w w' := by
  match k, hk, hi, hu with
  | 0, _, hi, hu => exact within_no_0 _ i 0 (by rw [addr_0]; omega) hi (by omega) (by omega) m (by rw [addr_0]; omega) hm g a u w hH hu
  | 1, _, hi, hu => exact within_no_1 _ i 0 (by rw [addr_1]; omega) hi (by omega) (by omega) m (by rw [addr_1]; omega) hm g a u w hH hu
  | 2, _, hi, hu => exact within_no_2 _ i 0 (by rw [addr_2]; omega) hi (by omega) (by omega) m (by rw [addr_2]; omega) hm g a u w hH hu
  | 3, _, hi, hu => exact within_no_3 _ i 0 (by rw [addr_3]; omega) hi (by omega) (by omega) m (by rw [addr_3]; omega) hm g a u w hH hu
end

/-! ### Blocks -/
theorem addr_bd (k i : Nat) (hk : k < 4) (hi : i < nb k) : 262144 ≤ addr k i ∧ addr k i + 4 * sz k ≤ 273408 ∧ addr k i % 4 = 0 ∧ 1 ≤ sz k ∧ sz k ≤ 128 ∧ nb k ≤ 64 := by
  match k, hk, hi with
  | 0, _, hi => have hi : i < 64 := hi
                show 262144 ≤ 262144 + 4 * 4 * i ∧ 262144 + 4 * 4 * i + 4 * 4 ≤ 273408 ∧ (262144 + 4 * 4 * i) % 4 = 0 ∧ 1 ≤ 4 ∧ 4 ≤ 128 ∧ 64 ≤ 64; omega
  | 1, _, hi => have hi : i < 32 := hi
                show 262144 ≤ 263168 + 4 * 16 * i ∧ 263168 + 4 * 16 * i + 4 * 16 ≤ 273408 ∧ (263168 + 4 * 16 * i) % 4 = 0 ∧ 1 ≤ 16 ∧ 16 ≤ 128 ∧ 32 ≤ 64; omega
  | 2, _, hi => have hi : i < 16 := hi
                show 262144 ≤ 265216 + 4 * 64 * i ∧ 265216 + 4 * 64 * i + 4 * 64 ≤ 273408 ∧ (265216 + 4 * 64 * i) % 4 = 0 ∧ 1 ≤ 64 ∧ 64 ≤ 128 ∧ 16 ≤ 64; omega
  | 3, _, hi => have hi : i < 8 := hi
                show 262144 ≤ 269312 + 4 * 128 * i ∧ 269312 + 4 * 128 * i + 4 * 128 ≤ 273408 ∧ (269312 + 4 * 128 * i) % 4 = 0 ∧ 1 ≤ 128 ∧ 128 ≤ 128 ∧ 8 ≤ 64; omega
/-- Class k lies between its begin and its end. -/
theorem addr_in (k i : Nat) (hk : k < 4) (hi : i < nb k) : bs k ≤ addr k i ∧ addr k i + 4 * sz k ≤ bs k + 4 * sz k * nb k := by
  match k, hk, hi with
  | 0, _, hi => have hi : i < 64 := hi
                show 262144 ≤ 262144 + 4 * 4 * i ∧ 262144 + 4 * 4 * i + 4 * 4 ≤ 262144 + 4 * 4 * 64; omega
  | 1, _, hi => have hi : i < 32 := hi
                show 263168 ≤ 263168 + 4 * 16 * i ∧ 263168 + 4 * 16 * i + 4 * 16 ≤ 263168 + 4 * 16 * 32; omega
  | 2, _, hi => have hi : i < 16 := hi
                show 265216 ≤ 265216 + 4 * 64 * i ∧ 265216 + 4 * 64 * i + 4 * 64 ≤ 265216 + 4 * 64 * 16; omega
  | 3, _, hi => have hi : i < 8 := hi
                show 269312 ≤ 269312 + 4 * 128 * i ∧ 269312 + 4 * 128 * i + 4 * 128 ≤ 269312 + 4 * 128 * 8; omega
theorem class_apart (j k : Nat) (hj : j < k) (hk : k < 4) : bs j + 4 * sz j * nb j ≤ bs k := by
  match k, hk with
  | 0, _ => omega
  | 1, _ => match j, hj with
            | 0, _ => exact (by decide : 262144 + 4 * 4 * 64 ≤ 263168)
  | 2, _ => match j, hj with
            | 0, _ => exact (by decide : 262144 + 4 * 4 * 64 ≤ 265216)
            | 1, _ => exact (by decide : 263168 + 4 * 16 * 32 ≤ 265216)
  | 3, _ => match j, hj with
            | 0, _ => exact (by decide : 262144 + 4 * 4 * 64 ≤ 269312)
            | 1, _ => exact (by decide : 263168 + 4 * 16 * 32 ≤ 269312)
            | 2, _ => exact (by decide : 265216 + 4 * 64 * 16 ≤ 269312)
theorem block_apart (k i k' i' : Nat) (hk : k < 4) (hi : i < nb k) (hk' : k' < 4) (hi' : i' < nb k') (hne : ¬(k = k' ∧ i = i')) : addr k i + 4 * sz k ≤ addr k' i' ∨ addr k' i' + 4 * sz k' ≤ addr k i := by
  have h1 := addr_in k i hk hi
  have h2 := addr_in k' i' hk' hi'
  rcases Nat.lt_trichotomy k k' with h | h | h
  · have := class_apart k k' h hk'; omega
  · subst h
    have hne : i ≠ i' := fun e => hne ⟨rfl, e⟩
    unfold addr
    rcases Nat.lt_or_gt_of_ne hne with h | h
    · have := Nat.mul_le_mul_left (4 * sz k) (Nat.succ_le_of_lt h)
      rw [Nat.mul_succ] at this
      omega
    · have := Nat.mul_le_mul_left (4 * sz k) (Nat.succ_le_of_lt h)
      rw [Nat.mul_succ] at this
      omega
  · have := class_apart k' k h hk; omega

theorem cnt_set {u : Nat → Nat → Bool} {K m n : Nat} (hm : m < n) (h : u K m = false) : cnt (upd u K m true K) n = cnt (u K) n + 1 := by
  have h1 := cnt_clear (u := upd u K m true) (K := K) (m := m) (n := n) hm (by simp [upd])
  have h2 : cnt (upd (upd u K m true) K m false K) n = cnt (u K) n := cnt_same fun i _ => by
    unfold upd
    by_cases e : i = m
    · subst e; simp [h]
    · simp [e]
  omega
theorem cnt_other {u : Nat → Nat → Bool} {K k m n : Nat} {b : Bool} (hk : k ≠ K) : cnt (upd u K m b k) n = cnt (u k) n := cnt_same fun i _ => by simp [upd, hk]
/-- Not all are so: the first that is not. -/
theorem cnt_first {f : Nat → Bool} {n : Nat} (h : cnt f n ≠ n) : ∃ i, i < n ∧ f i = false ∧ ∀ j, j < i → f j = true := by
  induction n with
  | zero => exact absurd rfl h
  | succ n ih =>
    by_cases e : cnt f n = n
    · refine ⟨n, by omega, ?_, ?_⟩
      · cases hf : f n with
        | false => rfl
        | true => exact absurd (by rw [cnt_yes hf, e]) h
      · clear h ih
        induction n with
        | zero => intro j hj; omega
        | succ n ih =>
          have hle := cnt_le f n
          have hn : f n = true := by
            cases hf : f n with
            | true => rfl
            | false => rw [cnt_no hf] at e; omega
          intro j hj
          rcases Nat.lt_or_ge j n with h | h
          · exact ih (by rw [cnt_yes hn] at e; omega) j h
          · obtain rfl : j = n := by omega
            exact hn
    · obtain ⟨i, hi, h1, h2⟩ := ih e
      exact ⟨i, by omega, h1, h2⟩
theorem cnt_all {f : Nat → Bool} {n : Nat} (h : cnt f n = n) : ∀ j, j < n → f j = true := by
  induction n with
  | zero => intro j hj; omega
  | succ n ih =>
    have hle := cnt_le f n
    have hn : f n = true := by
      cases hf : f n with
      | true => rfl
      | false => rw [cnt_no hf] at h; omega
    intro j hj
    rcases Nat.lt_or_ge j n with h' | h'
    · exact ih (by rw [cnt_yes hn] at h; omega) j h'
    · obtain rfl : j = n := by omega
      exact hn

/-- The list of blocks in use, against the heap's marks. -/
structure Inv (L : List (Nat × Nat)) (u : Nat → Nat → Bool) : Prop where
  valid : ∀ p ∈ L, p.1 < 4 ∧ p.2 < nb p.1 ∧ u p.1 p.2 = true
  nodup : L.Nodup
  count : ∀ k, k < 4 → cnt (u k) (nb k) = L.countP (fun p => p.1 == k)
theorem inv_nil : Inv [] (firsts 0 0) := ⟨fun p h => (by cases h), List.nodup_nil, fun k _ => by
  rw [firsts_zero]
  have : ∀ n, cnt (fun _ => false) n = 0 := fun n => by induction n with | zero => rfl | succ n ih => rw [cnt_no rfl, ih]
  rw [this]; rfl⟩
theorem inv_add {L : List (Nat × Nat)} {u : Nat → Nat → Bool} (h : Inv L u) {k i : Nat} (hk : k < 4) (hi : i < nb k) (hu : u k i = false) : Inv (L ++ [(k, i)]) (upd u k i true) := by
  have hne : ∀ p ∈ L, p ≠ (k, i) := fun p hp e => by
    have := (h.valid p hp).2.2
    rw [e, hu] at this
    cases this
  refine ⟨fun p hp => ?_, ?_, fun j hj => ?_⟩
  · rcases List.mem_append.1 hp with hp | hp
    · obtain ⟨a, b, c⟩ := h.valid p hp
      refine ⟨a, b, ?_⟩
      unfold upd
      split
      · rfl
      · exact c
    · obtain rfl : p = (k, i) := by simpa using hp
      exact ⟨hk, hi, by simp [upd]⟩
  · rw [List.nodup_append]
    refine ⟨h.nodup, by simp, fun p hp q hq => ?_⟩
    obtain rfl : q = (k, i) := by simpa using hq
    exact hne p hp
  · rw [List.countP_append]
    by_cases e : j = k
    · subst e
      rw [cnt_set hi hu, h.count j hj]
      simp
    · rw [cnt_other e, h.count j hj]
      have : (k == j) = false := by simpa using fun e' => e e'.symm
      simp [List.countP_cons, this]
theorem inv_del {A B : List (Nat × Nat)} {k i : Nat} {u : Nat → Nat → Bool} (h : Inv (A ++ (k, i) :: B) u) : Inv (A ++ B) (upd u k i false) := by
  have hval := h.valid (k, i) (by simp)
  have hi : i < nb k := hval.2.1
  have hu : u k i = true := hval.2.2
  have hn := h.nodup
  rw [List.nodup_append, List.nodup_cons] at hn
  obtain ⟨n1, ⟨n2, n3⟩, n4⟩ := hn
  have hne : ∀ p ∈ A ++ B, ¬(p.1 = k ∧ p.2 = i) := by
    rintro ⟨p1, p2⟩ hp ⟨e1, e2⟩
    simp only at e1 e2
    subst e1 e2
    rcases List.mem_append.1 hp with hp | hp
    · exact n4 _ hp (p1, p2) (by simp) rfl
    · exact n2 hp
  refine ⟨fun p hp => ?_, ?_, fun j hj => ?_⟩
  · obtain ⟨a, b, c⟩ := h.valid p (by
      rcases List.mem_append.1 hp with hp | hp
      · simp [hp]
      · simp [hp])
    refine ⟨a, b, ?_⟩
    unfold upd
    rw [if_neg (hne p hp)]
    exact c
  · rw [List.nodup_append]
    exact ⟨n1, n3, fun p hp q hq => n4 p hp q (by simp [hq])⟩
  · have hc := h.count j hj
    rw [List.countP_append, List.countP_cons] at hc
    rw [List.countP_append]
    by_cases e : j = k
    · subst e
      have := cnt_clear hi hu
      simp at hc
      omega
    · have hkj : ((k, i).1 == j) = false := by simpa using fun e' => e e'.symm
      rw [cnt_other e, hc, hkj]
      simp
end Go.Proofs.Ytefkaikedapokaa
