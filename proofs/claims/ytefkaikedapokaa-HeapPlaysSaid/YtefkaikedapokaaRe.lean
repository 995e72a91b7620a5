/- Contracts of the reference heap: Free, Live, Within, in the words of the list of blocks. -/
import Derived.Test.YtefkaikedapokaaRd
namespace Go.Proofs.Ytefkaikedapokaa
open Go.RowKit
set_option linter.unusedSimpArgs false
set_option linter.unusedVariables false

theorem blks_new (w : World) {base : Nat} (hb : base ≤ w.heap.size) : Blks ((w.alloc (.cells #[] 59)).drew) base (.slice (some ⟨w.heap.size, 0, none⟩) 0 0) [] := by
  refine ⟨rfl, Or.inr ⟨w.heap.size, 0, #[], rfl, hb, ?_, Nat.le_refl _, Nat.zero_le _, rfl, rfl⟩⟩
  show (w.heap.push _)[w.heap.size]? = _
  rw [Array.getElem?_push_size]
theorem delB_first {w w1 : World} {base : Nat} {v1 : Value} {xs ys : List (Nat × Nat)} (hA : AppB ((w.alloc (.cells #[] 59)).drew) base (.slice (some ⟨w.heap.size, 0, none⟩) 0 0) xs ys v1 w1) :
    Below w.heap.size w w1 ∧ ∀ b, v1.ownBlock = some b → w.heap.size ≤ b := by
  have hs : ((w.alloc (.cells #[] 59)).drew).heap.size = w.heap.size + 1 := by simp
  refine ⟨(bl_drewN (bl_one w (.cells #[] 59)) 1).grown hA.grown (by show w.heap.size ≤ ((w.alloc (.cells #[] 59)).drew).heap.size; omega) (fun k hk => by injection hk with hk; rw [← hk]; exact Nat.le_refl _), fun b hb => ?_⟩
  rcases hA.at_ with e | e
  · rw [e] at hb; injection hb with hb; rw [← hb]; exact Nat.le_refl _
  · rw [e, hs] at hb; injection hb with hb; omega
theorem delB_second {w w1 w2 : World} {base : Nat} {v1 v2 : Value} {xs ys : List (Nat × Nat)} (hb : Below w.heap.size w w1) (hf : ∀ b, v1.ownBlock = some b → w.heap.size ≤ b) (hA : AppB w1 base v1 xs ys v2 w2) :
    Below w.heap.size w w2 ∧ ∀ b, v2.ownBlock = some b → w.heap.size ≤ b := by
  refine ⟨hb.grown hA.grown hb.size hf, fun b h => ?_⟩
  rcases hA.at_ with e | e
  · exact hf b (e.symm.trans h)
  · rw [e] at h; injection h with h; have := hb.size; omega
theorem bcells_take (A B : List (Nat × Nat)) (j : Nat) (u : Value) (h : (bcells A)[j]? = some u) : (bcells (A ++ B))[j]? = some u := by
  rw [bcells_app, List.getElem?_append_left (List.getElem?_eq_some_iff.1 h).1]; exact h
theorem bcells_drop (A B : List (Nat × Nat)) (p : Nat × Nat) (j : Nat) (u : Value) (h : (bcells B)[j]? = some u) : (bcells (A ++ p :: B))[(A.length + 1) * 3 + j]? = some u := by
  have e : A ++ p :: B = (A ++ [p]) ++ B := by simp
  rw [e, bcells_app, List.getElem?_append_right (by rw [bcells_len]; simp), bcells_len]
  rw [show (A.length + 1) * 3 + j - (A ++ [p]).length * 3 = j from by simp]
  exact h
theorem takeB_cells {w w' : World} (hb : Below w.heap.size w w') {g : Nat} {A B : List (Nat × Nat)} (h : ∀ (j : Nat) (u : Value), (bcells (A ++ B))[j]? = some u → w.cell? ⟨g, j, none⟩ = some u) :
    ∀ j u, (bcells A)[j]? = some u → w'.cell? ((⟨g, 0, none⟩ : Addr).add j) = some u := by
  intro j u hj
  have e : (⟨g, 0, none⟩ : Addr).add j = ⟨g, j, none⟩ := by unfold Addr.add; split <;> simp_all
  rw [e]
  exact old_cell hb (h j u (bcells_take A B j u hj))
theorem tailB_at (g T n cap : Nat) (hn : n ≤ cap) : ∃ A : Addr, (if cap = T + 1 then some (⟨g, 0, none⟩ : Addr) else some ⟨g, (T + 1) * 3, none⟩) = some A ∧ ∀ j, T + 1 < n → A.add j = ⟨g, (T + 1) * 3 + j, none⟩ := by
  by_cases e : cap = T + 1
  · exact ⟨_, if_pos e, fun j hj => by omega⟩
  · exact ⟨_, if_neg e, fun j hj => by unfold Addr.add; split <;> simp_all⟩
theorem dropB_cells {w w' : World} (hb : Below w.heap.size w w') {g : Nat} {A B : List (Nat × Nat)} {p : Nat × Nat} {Ad : Addr} (hA : ∀ j, A.length + 1 < (A ++ p :: B).length → Ad.add j = ⟨g, (A.length + 1) * 3 + j, none⟩) (h : ∀ (j : Nat) (u : Value), (bcells (A ++ p :: B))[j]? = some u → w.cell? ⟨g, j, none⟩ = some u) :
    ∀ j u, (bcells B)[j]? = some u → w'.cell? (Ad.add j) = some u := by
  intro j u hj
  have hB : B ≠ [] := fun e => by subst e; simp [bcells] at hj
  have : 0 < B.length := by cases B with | nil => exact absurd rfl hB | cons _ _ => simp
  rw [hA j (by simp; omega)]
  exact old_cell hb (h _ u (bcells_drop A B p j u hj))

theorem blks_slice {w : World} {base : Nat} {v : Value} {L : List (Nat × Nat)} (h : Blks w base v L) : ∃ A m cap, v = .slice A m cap := by
  obtain ⟨A, cap, e⟩ := blks_len h
  exact ⟨A, _, cap, e⟩
/-- Behind the store of a row of its own. -/
theorem ref_fresh {w w3 w1 : World} {base rg : Nat} {v v' v1 : Value} {L L0 M : List (Nat × Nat)} (hR : RefAt w base rg v L) (hb : Below w.heap.size w w3) (hA : AppB w1 base v1 L0 M v' w3) (hf : ∀ b, v'.ownBlock = some b → w.heap.size ≤ b) (hl : (L0 ++ M).length ≤ 1000) (hbs : base ≤ w.heap.size) :
    RefAt (w3.setCell ⟨rg, 0, none⟩ v') base rg v' (L0 ++ M) ∧ Rb base rg v w v' (w3.setCell ⟨rg, 0, none⟩ v') := by
  have hrl : rg < w.heap.size := cell_lt hR.cell
  have hc3 := old_cell hb hR.cell
  have hf3 := old_frz hb hrl hR.frz
  have hap : v'.ownBlock ≠ some rg := fun e => by have := hf _ e; omega
  refine ⟨⟨World.cell?_setCell_same _ _ _ hc3, by rw [World.frozen?_setCell]; exact hf3, ?_, hap, hl, hR.lt⟩, ⟨(hb.mono hbs).setCell hR.lt v', ?_, fun b h => Or.inr (hf b h)⟩⟩
  · obtain ⟨h1, h2⟩ := hA.row
    refine ⟨h1, ?_⟩
    rcases h2 with h2 | ⟨g, cap, cur, hv, hg, hh, r⟩
    · exact Or.inl h2
    · refine Or.inr ⟨g, cap, cur, hv, hg, ?_, r⟩
      rw [Below.heap_setCell _ _ _ _ (fun e => hap (by rw [hv]; show some g = some rg; rw [e]))]
      exact hh
  · intro b hbl hb1 hb2
    rw [Below.heap_setCell _ _ _ _ hb1, hb.block b hbl]
set_option maxHeartbeats 4000000 in
set_option maxRecDepth 100000 in
theorem rfree_no (base rg : Nat) (v : Value) (L : List (Nat × Nat)) (w : World) (h : RefAt w base rg v L) (x : Int) (hno : ∀ q ∈ L, ((addr q.1 q.2 : Nat) : Int) ≠ x) :
    Calls Try.prog 13 #[.pointer (some ⟨rg, 0, none⟩), .int .i64 x] w fun e w' => e = .returned (.int .i64 13) ∧ w = w' := by
  have HNO := Lib.hid hno
  clear hno
  go_enter Try.func13, Try.ntmps13
  go_wp2_with fail
  refine (rfind_no base rg v L w h x HNO.out).mono ?_
  rintro e w' ⟨rfl, rfl⟩
  go_wp2
  go_ret
  exact ⟨rfl, rfl⟩
attribute [local go_sem ↓] Go.wp_at_zero Go.wp_at_succ
set_option maxHeartbeats 4000000 in
set_option maxRecDepth 100000 in
theorem rfree_is (base rg : Nat) (v : Value) (A B : List (Nat × Nat)) (k i : Nat) (w : World) (h : RefAt w base rg v (A ++ (k, i) :: B)) (hno : ∀ p ∈ A, addr p.1 p.2 ≠ addr k i) (hbs : base ≤ w.heap.size) :
    Calls Try.prog 13 #[.pointer (some ⟨rg, 0, none⟩), .int .i64 (addr k i : Nat)] w fun e w' => ∃ v', e = .returned (.int .i64 0) ∧ RefAt w' base rg v' (A ++ B) ∧ Rb base rg v w v' w' := by
  have hfind := rfind_is base rg v _ w h A.length (k, i) (by simp) (fun j q hj hq => hno q (by
    rw [List.getElem?_append_left hj] at hq; exact List.mem_of_getElem? hq))
  have HF0 := Lib.hid hfind
  have HF : Hid (∀ T, T = A.length → Calls Try.prog 21 #[.pointer (some ⟨rg, 0, none⟩), .int .i64 (addr k i : Nat)] w fun e w' => e = .returned (.int .i64 (T : Nat)) ∧ w = w') := (fun T hT => by subst hT; exact hfind)
  clear hfind hno
  rcases blks_open h.row with ⟨_, hn⟩ | ⟨g, cap, rfl, hg1, hg2, hcap, hget⟩
  · simp at hn
  have hc := h.cell
  have hf := h.frz
  have hs := h.small
  have hn : (A ++ (k, i) :: B).length = A.length + 1 + B.length := by simp; omega
  obtain ⟨n, hn'⟩ : ∃ n, n = (A ++ (k, i) :: B).length := ⟨_, rfl⟩
  rw [← hn'] at hc hs hcap
  have hTn : A.length + 1 ≤ n := by omega
  have HN := Lib.hid hn'
  have HGET := Lib.hid hget
  obtain ⟨T, hT⟩ : ∃ T, T = A.length := ⟨_, rfl⟩
  rw [← hT] at hTn
  obtain ⟨Ad, hA, hAc⟩ := tailB_at g T n cap hcap
  have HT := Lib.hid hT
  have HAC := Lib.hid hAc
  clear hget hn hn' hT hAc
  rw [← HN.out] at h ⊢
  go_enter Try.func13, Try.ntmps13
  go_wp2_with fail
  refine (HF.out T HT.out).mono ?_
  rintro e w' ⟨rfl, rfl⟩
  go_wp2
  have t1 : T ≤ cap := by omega
  have t2 : T + 1 ≤ n := hTn
  have t3 : T < n := by omega
  have hs' : n ≤ 1000 := hs
  have e0 : 0 ≤ (T : Int) + 1 := by omega
  have e1 : (T : Int) + 1 ≤ (n : Int) := by omega
  have e2 : ((T : Int) + 1).toNat = T + 1 := by omega
  have e3 : IntKind.i64.wrap ((T : Int) + 1) = (T : Int) + 1 := by rw [IntKind.wrap_i64]; omega
  have hlA : A.length ≤ 1000 := by rw [← HT.out]; omega
  have hlB : n - (T + 1) = B.length := by rw [HN.out, HT.out]; simp; omega
  have hlB1 : B.length ≤ 1000 := by omega
  have hlAB : A.length + B.length ≤ 1000 := by have h1 := HN.out; have h2 := hs; simp at h1; omega
  have HLB := Lib.hid hlB
  clear hlB
  have hca : ∀ o, (w.alloc o).cell? ⟨rg, 0, none⟩ = some (.slice (some ⟨g, 0, none⟩) n cap) := fun o => old_cell (bl_one _ o) h.cell
  go_region_law (first
    | (refine step_appB (by rfl) (.tmp 12) (.tmp 18) (by rfl) base _ [] A (by rfl) (blks_new _ hbs) ⟨g, 0, none⟩ T _ (by rfl) HT.out (takeB_cells (bl_drewN (bl_one _ _) 1) HGET.out) (by simp; omega) (Nat.le_trans hbs (bl_drewN (bl_one _ _) 1).size) ?_; intro v1 w1_ hA1; obtain ⟨hb1, hf1⟩ := delB_first hA1; have hc1 := old_cell hb1 h.cell)
    | (refine step_appB (by rfl) (.tmp 19) (.tmp 26) (by rfl) base v1 ([] ++ A) B (by rfl) hA1.row Ad (n - (T + 1)) _ (by rfl) HLB.out (dropB_cells hb1 (by rw [← HT.out, ← HN.out]; intro j hj; exact HAC.out j hj) HGET.out) (by simp; omega) (Nat.le_trans hbs hb1.size) ?_; intro v2 w2_ hA2; obtain ⟨A4, m4, c4, rfl⟩ := blks_slice hA2.row; obtain ⟨hb2, hf2⟩ := delB_second hb1 hf1 hA2; have hc2 := old_cell hb2 h.cell; have hfz2 := old_frz hb2 (cell_lt h.cell) h.frz))
  all_goals
    clear hca hc1 hc2 hfz2
    obtain ⟨hR4, hRb⟩ := ref_fresh h hb2 hA2 hf2 (by simp; omega) hbs
    go_wp2
    go_ret
    exact ⟨_, rfl, hR4, hRb⟩

theorem rfree {L L' : List (Nat × Nat)} {u u' : Nat → Nat → Bool} {x e : Int} (h : FreeTo L u x e L' u') (hI : Ix L u) (base rg : Nat) (v : Value) (w : World) (hR : RefAt w base rg v L) (hbs : base ≤ w.heap.size) :
    Calls Try.prog 13 #[.pointer (some ⟨rg, 0, none⟩), .int .i64 x] w fun r w' => ∃ v', r = .returned (.int .i64 e) ∧ RefAt w' base rg v' L' ∧ Rb base rg v w v' w' := by
  cases h with
  | no hno => exact (rfree_no base rg v L w hR x hno).mono fun r w' ⟨h1, h2⟩ => by subst h2; exact ⟨v, h1, hR, rb_below (Below.refl _ _) hbs⟩
  | yes A B k i hL hx =>
    subst hL hx
    have hv := hI.inv.valid
    have hn := hI.inv.nodup
    refine rfree_is base rg v A B k i w hR (fun p hp e => ?_) hbs
    obtain ⟨v1, v2, _⟩ := hv p (by simp [hp])
    obtain ⟨v3, v4, _⟩ := hv (k, i) (by simp)
    obtain ⟨e1, e2⟩ := addr_inj v1 v2 v3 v4 e
    rw [List.nodup_append] at hn
    exact hn.2.2 p hp (k, i) (by simp) (Prod.ext e1 e2)
theorem rlive {L : List (Nat × Nat)} (k : Int) (base rg : Nat) (v : Value) (w : World) (hR : RefAt w base rg v L) :
    Calls Try.prog 15 #[.pointer (some ⟨rg, 0, none⟩), .int .i64 k] w fun r w' => r = .returned (.int .i64 (liveOf L k)) ∧ w = w' := rlive_any base rg v L w hR k
theorem rwithin {L : List (Nat × Nat)} {u : Nat → Nat → Bool} (hI : Ix L u) (x m : Int) (base rg : Nat) (v : Value) (w : World) (hR : RefAt w base rg v L) :
    Calls Try.prog 17 #[.pointer (some ⟨rg, 0, none⟩), .int .i64 x, .int .i64 m] w fun r w' => r = .returned (.bool (inside L x m)) ∧ Below w.heap.size w w' := by
  have hL : Lie L := fun p hp => by
    obtain ⟨v1, v2, _⟩ := hI.inv.valid p hp
    obtain ⟨b1, b2, _, b3, b4, _⟩ := addr_bd p.1 p.2 v1 v2
    exact ⟨b1, b2, b3, b4⟩
  by_cases hn : x < 0
  · rw [inside_no fun p hp => decide_eq_false fun ⟨_, _, h3, _⟩ => by have := (hL p hp).1; omega]
    by_cases h4 : x.tmod 4 = 0
    · by_cases hm : m < 1
      · exact rwithin_fewn base rg v L w hR hL x m hn h4 hm
      · exact rwithin_neg base rg v L w hR hL x m hn h4 (by omega)
    · exact rwithin_misn base rg v L w hR hL x m hn h4
  by_cases h4 : x % 4 = 0
  case neg =>
    rw [inside_no fun p hp => decide_eq_false fun ⟨h1, _⟩ => h4 h1]
    exact rwithin_mis base rg v L w hR hL x m (by omega) h4
  by_cases hm : m < 1
  · rw [inside_no fun p hp => decide_eq_false fun ⟨_, h2, _⟩ => by omega]
    exact rwithin_few base rg v L w hR hL x m (by omega) h4 hm
  have hone : ∀ p ∈ L, holds x m p = false → x < (addr p.1 p.2 : Nat) ∨ ((addr p.1 p.2 : Nat) : Int) + 4 * (sz p.1 : Nat) ≤ x ∨ ((sz p.1 : Nat) : Int) - (x - (addr p.1 p.2 : Nat)) / 4 < m := fun p hp h => by
    have := of_decide_eq_false h
    omega
  cases hi : inside L x m with
  | false =>
    refine rwithin_no base rg v L w hR hL x m (by omega) h4 (by omega) fun p hp => hone p hp ?_
    have := List.any_eq_false.1 hi p hp
    simpa using this
  | true =>
    obtain ⟨p, hp, hh⟩ := List.any_eq_true.1 hi
    obtain ⟨_, _, h1, h2, h3⟩ := of_decide_eq_true hh
    obtain ⟨j, hj, hno⟩ := first_at hp
    refine rwithin_is base rg v L w hR hL x m (by omega) h4 (by omega) j p hj h1 h2 h3 fun j' q hj' hq => hone q (List.mem_of_getElem? hq) ?_
    cases hq' : holds x m q with
    | false => rfl
    | true =>
      exfalso
      obtain ⟨_, _, g1, g2, _⟩ := of_decide_eq_true hq'
      obtain ⟨v1, v2, _⟩ := hI.inv.valid p hp
      obtain ⟨v3, v4, _⟩ := hI.inv.valid q (List.mem_of_getElem? hq)
      rcases Classical.em (q.1 = p.1 ∧ q.2 = p.2) with e | e
      · exact hno j' q hj' hq (Prod.ext e.1 e.2)
      · have := block_apart q.1 q.2 p.1 p.2 v3 v4 v1 v2 e
        omega
end Go.Proofs.Ytefkaikedapokaa
