/- BorrowOverlaps: the contract of ferruleref08.Steps. -/
import Derived.Test.YtfhlmbdjfpoapaaBc
import Derived.OwnWalk
namespace Go.Proofs.Ytfhlmbdjfpoapaa
open Go.RowKit
set_option linter.unusedSimpArgs false
set_option linter.unusedVariables false

theorem bl_drew {B : Nat} {a w : World} (h : Below B a w) : Below B a w.drew := bl_drewN h 1
/-- What the reference tells of a tree; the row that it tells where there is none can be read too. -/
def SPost2 (l : List Nd) (e : Ending) (w' : World) : Prop :=
  ∃ r vs ok xs, e = .returned (.tuple #[.int .i64 r, vs, .bool ok]) ∧ Rd w' vs xs ∧ xs.length ≤ l.length ∧ (match path l with | some (p, r') => ok = true ∧ r = r' ∧ xs = (p.map st2).reverse | none => ok = false)

theorem app35o {w : World} {base : Nat} {v : Value} {L M : List (Int × Int)} (hown : Row w 39 base v L) (ty : TypeId) {vs : Value} (hn : Rd w vs M) (hl : L.length + M.length < 1000000000) (hbase : base ≤ w.heap.size) :
    ∃ v' w', (Builtin.append_ #[35, 35] ty #[v, vs]).run Try.prog w = .ok v' w' ∧ AppP w 39 base v L M v' w' := by
  rcases hn with ⟨rfl, rfl⟩ | ⟨g, cap, rfl, _, hc, hn⟩
  · obtain ⟨i0, hi, hz0, hz1, hz2⟩ := info_parts info39
    refine ⟨v, w, run_append_owned_none (P := Try.prog) w base 35 ty 39 i0 2 Try.underlying35 hi v L.length _ hown, ?_, World.grownBy.refl _ _, Or.inl rfl⟩
    rw [List.append_nil]; exact hown
  · refine run_app35 hown ty ⟨g, 0, none⟩ cap (fun j u hj => ?_) hl hbase
    have hlt : j < M.length * 2 := by have := (List.getElem?_eq_some_iff.1 hj).1; rw [pcells_len] at this; exact this
    have hp : M[j / 2]? = some M[j / 2] := List.getElem?_eq_getElem (by omega)
    obtain ⟨e1, e2⟩ := pcells_get M (j / 2) _ hp
    obtain ⟨c1, c2⟩ := hn (j / 2) _ hp
    have e : (⟨g, 0, none⟩ : Addr).add j = ⟨g, j, none⟩ := by unfold Addr.add; split <;> simp_all
    rw [e]
    rcases Nat.mod_two_eq_zero_or_one j with h | h
    · have hj' : j = j / 2 * 2 := by omega
      rw [← hj', hj] at e1
      injection e1 with e1
      rw [← hj'] at c1
      rw [e1]
      exact c1
    · have hj' : j = j / 2 * 2 + 1 := by omega
      rw [← hj', hj] at e2
      injection e2 with e2
      rw [← hj'] at c2
      rw [e2]
      exact c2
theorem step_app35o {ops : Array Oper} {o : Oper} {a : Act} {w : World} {K : Act → World → Prop} {Q : Exit → Act → World → Prop} {E : Prop} (hgd : o.guard = none) (s x : Operand)
    (ho : o.op = .call { callee := .builtin .append, args := #[s, x], argTypes := #[35, 35] })
    (base : Nat) (v : Value) (L M : List (Int × Int)) (hs : a.eval s = v) (hown : Row w 39 base v L) (vs : Value) (hx : a.eval x = vs)
    (hn : Rd w vs M) (hl : L.length + M.length < 1000000000) (hbase : base ≤ w.heap.size)
    (hK : ∀ v' w', AppP w 39 base v L M v' w' → K (a.put o.dst v') w') :
    if Region.wanted o (yielded ops a.tmps) = true then Oper.wp Try.prog o a w K Q else E := by
  have hw : Region.wanted o (yielded ops a.tmps) = true := by simp [Region.wanted, hgd]
  rw [if_pos hw]
  obtain ⟨v', w', hr, h⟩ := app35o hown o.type hn hl hbase
  unfold Oper.wp execOp
  simp only [ho, resolve, invoke, builtin, Sem.run_bind, Sem.run_pure, Result.andThen_ok, List.map_toArray, List.map_cons, List.map_nil, hs, hx, hr]
  exact hK _ _ h
theorem rows_new (w : World) {base : Nat} (hb : base ≤ w.heap.size) : Row ((w.alloc (.cells #[] 39)).drew) 39 base (.slice (some ⟨w.heap.size, 0, none⟩) 0 0) [] := by
  refine ⟨rfl, Or.inr ⟨w.heap.size, 0, #[], rfl, hb, ?_, Nat.le_refl _, Nat.zero_le _, rfl, rfl⟩⟩
  show (w.heap.push _)[w.heap.size]? = _
  rw [Array.getElem?_push_size]
theorem one_cell39 (w : World) (k n : Int) : ∀ i u, (pcells [(k, n)])[i]? = some u → (w.alloc (.cells #[.int .i64 k, .int .i64 n] 39)).cell? ((⟨w.heap.size, 0, none⟩ : Addr).add i) = some u := by
  intro i u h
  match i, h with
  | 0, h => simp [pcells, pcell] at h; subst h; simp [Addr.add, go_sem]
  | 1, h => simp [pcells, pcell] at h; subst h; simp [Addr.add, go_sem]
  | i + 2, h => simp [pcells, pcell] at h

theorem rsteps_end {l : List Nd} {q : Nd} {xs : List (Int × Int)} {ok : Bool} {r0 : Int} (hpm : match path l with | some (p, r') => ok = true ∧ r0 = r' ∧ xs = (p.map st2).reverse | none => ok = false) (hp : ∀ x, path l = x → path (q :: l) = x.map fun x => (q :: x.1, x.2)) :
    match path (q :: l) with | some (p, r') => ok = true ∧ r0 = r' ∧ (([] : List (Int × Int)) ++ xs) ++ [((st2 q).1, (st2 q).2)] = (p.map st2).reverse | none => ok = false := by
  cases h : path l with
  | none => rw [h] at hpm; rw [hp none h]; exact hpm
  | some x =>
    obtain ⟨p, r'⟩ := x
    rw [h] at hpm
    obtain ⟨h1, h2, h3⟩ := hpm
    rw [hp _ h]
    exact ⟨h1, h2, by rw [h3]; simp⟩
theorem rows_new2 (w : World) (o : Obj) : Row (((w.alloc (.cells #[] 39)).alloc o).drew) 39 w.heap.size (.slice (some ⟨w.heap.size, 0, none⟩) 0 0) [] := (rows_new w (Nat.le_refl _)).below (bl_one _ _)
theorem rows_new3 (w : World) (o : Obj) : Row (((w.alloc o).alloc (.cells #[] 39)).drew) 39 w.heap.size (.slice (some ⟨w.heap.size + 1, 0, none⟩) 0 0) [] := by
  have h := rows_new (w.alloc o) (bl_one w o).size
  have e : (w.alloc o).heap.size = w.heap.size + 1 := by simp
  rw [e] at h; exact h
theorem bl_1 (w : World) (o : Obj) : Below w.heap.size w ((w.alloc o).drew) := bl_drew (bl_one _ _)
theorem bl_2 (w : World) (o o' : Obj) : Below w.heap.size w (((w.alloc o).alloc o').drew) := bl_drew (bl_alloc (bl_one _ _) _)
theorem app_cells {w w1 : World} {v v' : Value} {L M : List (Int × Int)} {el base g : Nat} {k n : Int} (hA : AppP w el base v L M v' w1) (hne : v.ownBlock ≠ some g) (h : ∀ i u, (pcells [(k, n)])[i]? = some u → w.cell? ((⟨g, 0, none⟩ : Addr).add i) = some u) :
    ∀ i u, (pcells [(k, n)])[i]? = some u → w1.cell? ((⟨g, 0, none⟩ : Addr).add i) = some u := fun i u hi => by
  have e : ∀ i, (⟨g, 0, none⟩ : Addr).add i = ⟨g, i, none⟩ := fun i => by unfold Addr.add; split <;> simp_all
  have h1 := h i u hi
  rw [e] at h1 ⊢
  exact (World.cell?_of_block (w := w) (hA.grown.block g (cell_lt h1) (fun e => hne e.symm))).trans h1
theorem two_cell1 (w : World) (o : Obj) (k n : Int) : ∀ i u, (pcells [(k, n)])[i]? = some u → (((w.alloc o).alloc (.cells #[.int .i64 k, .int .i64 n] 39)).drew).cell? ((⟨w.heap.size + 1, 0, none⟩ : Addr).add i) = some u := by
  have h := one_cell39 (w.alloc o) k n
  have e : (w.alloc o).heap.size = w.heap.size + 1 := by simp
  rw [e] at h; exact h
theorem two_cell2 (w : World) (o : Obj) (k n : Int) : ∀ i u, (pcells [(k, n)])[i]? = some u → (((w.alloc (.cells #[.int .i64 k, .int .i64 n] 39)).alloc o).drew).cell? ((⟨w.heap.size, 0, none⟩ : Addr).add i) = some u := fun i u hi => by
  have e : ∀ i, (⟨w.heap.size, 0, none⟩ : Addr).add i = ⟨w.heap.size, i, none⟩ := fun i => by unfold Addr.add; split <;> simp_all
  have h1 := one_cell39 w k n i u hi
  rw [e] at h1 ⊢
  exact old_cell (bl_one _ o) h1
theorem app_below {w w0 w1 : World} {v v' : Value} {L M : List (Int × Int)} {el : Nat} (hb : Below w0.heap.size w0 w) (hA : AppP w el w0.heap.size v L M v' w1) (hr : Row w el w0.heap.size v L) : Below w0.heap.size w0 w1 :=
  hb.grown hA.grown hb.size fun k hk => (hr.own hk).1

theorem ne_own {c d n k : Nat} (h : c ≠ d) : (Value.slice (some ⟨c, 0, none⟩) n k).ownBlock ≠ some d := fun e => h (by injection e)

attribute [local go_sem ↓] Go.wp_at_zero Go.wp_at_succ
set_option maxHeartbeats 4000000 in
set_option maxRecDepth 100000 in
theorem rsteps_any : ∀ (l : List Nd) (v : Value) (w : World) (h : Spine w l v) (hl : l.length ≤ 1000),
    Calls Try.prog 8 #[v] w fun e w' => SPost2 l e w' ∧ Below w.heap.size w w'
  | [], v, w, h, _ => h.elim
  | q :: l, v, w, h, hl => by
    have IH := fun v w h => rsteps_any l v w h (by simp at hl; omega)
    have HIH := Lib.hid IH
    clear IH
    have hS := h
    obtain ⟨A, cap, a1, t3, A5, n5, k5, a6, s7, a8, A9, n9, k9, rfl, hx1, hx2⟩ := h
    clear hx1 hx2
    have hX := Bx.new w (.int .i64 q.kd) (.int .i64 a1) (.int .i64 q.nm) (.string t3) (.slice A q.nk cap) (.slice A5 n5 k5) (.int .i64 a6) (.string s7) (.int .i64 a8) (.slice A9 n9 k9)
    have hB := bl_one w (.cells #[.int .i64 q.kd, .int .i64 a1, .int .i64 q.nm, .string t3, .slice A q.nk cap, .slice A5 n5 k5, .int .i64 a6, .string s7, .int .i64 a8, .slice A9 n9 k9] 27)
    have HS := Lib.hid hS
    clear hS
    have hxl : l.length + 1 ≤ 1000 := by simpa using hl
    by_cases z4 : q.kd = 4
    · have b4 : (q.kd == 4) = true := beq_iff_eq.2 z4
      have hp : path (q :: l) = some ([], q.nm) := by rw [path_cons, if_pos z4]
      have HP := Lib.hid hp
      clear hp z4
      go_enter Try.func8, Try.ntmps8
      go_wp2
      go_ret3
      exact ⟨⟨q.nm, _, true, [], rfl, Or.inl ⟨rfl, rfl⟩, by simp, by rw [HP.out]; exact ⟨rfl, rfl, rfl⟩⟩, hB⟩
    · have b4 : (q.kd == 4) = false := beq_eq_false_iff_ne.2 z4
      by_cases hok : okN q
      · obtain ⟨hor, hk⟩ := hok
        have hk0 : 0 < q.nk := by omega
        have hp : ∀ x, path l = x → path (q :: l) = x.map fun x => (q :: x.1, x.2) := fun x hx => by rw [path_cons, if_neg z4, if_pos ⟨hor, hk⟩, hx]
        obtain ⟨q', r', b, off, b1, u3, B, cap', B5, m5, j5, b6, t7, b8, B9, m9, j9, hr_, rfl, hT, hS1, hsec⟩ := HS.out.kid hk0
        rw [← hr_] at hS1
        have hd0 : (q.nk == 0) = false := beq_eq_false_iff_ne.2 hk
        have hd1 : ((q.nk : Int) == 0) = false := beq_eq_false_iff_ne.2 (by omega)
        have hd2 : 0 < q.nk := hk0
        have i0 : (0 : Int) < (q.nk : Int) := by omega
        obtain ⟨q0, q1, q2, q3, q4, q5, q6, q7, q8, q9⟩ := hT.below hB
        have hor' := hor
        clear hr_ hT hor hk
        by_cases z12 : q.kd = 12
        · have z13 : ¬ q.kd = 13 := by omega
          have z7 : ¬ q.kd = 7 := by omega
          have b12 : (q.kd == 12) = true := beq_iff_eq.2 z12
          have n12 : (q.kd != 12) = false := by simp [z12]
          have b13 : (q.kd == 13) = false := beq_eq_false_iff_ne.2 z13
          have n13 : (q.kd != 13) = true := by simp [z13]
          have b7 : (q.kd == 7) = false := beq_eq_false_iff_ne.2 z7
          have n7 : (q.kd != 7) = true := by simp [z7]
          have HP := Lib.hid hp
          have hst : st2 q = (1, q.nm) := by unfold st2; rw [if_pos z12]
          have HST := Lib.hid hst
          clear hp hst hor' z12 z13 z7 z4 hsec
          go_enter Try.func8, Try.ntmps8
          go_wp2_with fail
          refine (HIH.out _ _ (hS1.below hB)).mono ?_
          rintro e w1 ⟨⟨r0, vs, ok, xs, rfl, hrd, hxs, hpm⟩, hb1⟩
          have HPM := Lib.hid hpm
          have hB1 := bl_then hB hb1
          have hX1 := hX.below hb1
          have hX2 := hX1.below (bl_one w1 (.cells #[.int .i64 4, .int .i64 0] 39))
          have hs0 : (w1.alloc (.cells #[.int .i64 4, .int .i64 0] 39)).cell? ⟨w1.heap.size, 0, none⟩ = some (.int .i64 4) := by simp [go_sem]
          have hs1 : (w1.alloc (.cells #[.int .i64 4, .int .i64 0] 39)).cell? ⟨w1.heap.size, 1, none⟩ = some (.int .i64 0) := by simp [go_sem]
          have hg0 : (w1.alloc (.cells #[.int .i64 4, .int .i64 0] 39)).frozen? ⟨w1.heap.size, 0, none⟩ = false := by simp [go_sem]
          have hg1 : (w1.alloc (.cells #[.int .i64 4, .int .i64 0] 39)).frozen? ⟨w1.heap.size, 1, none⟩ = false := by simp [go_sem]
          have hsx : w.heap.size < w1.heap.size := cell_lt hX1.k0
          have hbw := bl_one w1 (.cells #[.int .i64 4, .int .i64 0] 39)
          have hne1 : w1.heap.size ≠ w.heap.size := by omega
          have hne2 : w.heap.size ≠ w1.heap.size := by omega
          clear hpm hX hB hX1 q0 q1 q2 q3 q4 q5 q6 q7 q8 q9
          go_upto_region 7 with fail
          generalize w1.alloc (.cells #[.int .i64 4, .int .i64 0] 39) = w2 at *
          obtain ⟨k0, k1, k2, k3, k4, k5_, k6, k7, k8, k9_, _, _, _, _, _, _, _, _, _, _⟩ := hX2
          go_upto_region 13 with fail
          have hs0' : ((w2.setCell ⟨w1.heap.size, 0, none⟩ (.int .i64 1)).setCell ⟨w1.heap.size, 1, none⟩ (.int .i64 q.nm)).cell? ⟨w1.heap.size, 0, none⟩ = some (.int .i64 (st2 q).1) := by rw [HST.out]; exact (set_far (by decide) (set_here hs0))
          have hs1' : ((w2.setCell ⟨w1.heap.size, 0, none⟩ (.int .i64 1)).setCell ⟨w1.heap.size, 1, none⟩ (.int .i64 q.nm)).cell? ⟨w1.heap.size, 1, none⟩ = some (.int .i64 (st2 q).2) := by rw [HST.out]; exact (set_here (set_far (by decide) hs1))
          have hbw' : Below w1.heap.size w1 ((w2.setCell ⟨w1.heap.size, 0, none⟩ (.int .i64 1)).setCell ⟨w1.heap.size, 1, none⟩ (.int .i64 q.nm)) := (bl_set (bl_set hbw (Nat.le_refl _)) (Nat.le_refl _))
          have hB3 := bl_then hB1 hbw'
          have hrd3 := hrd.below hbw'
          clear hbw' hbw hs0 hs1 hg0 hg1 k0 k1 k2 k3 k4 k5_ k6 k7 k8 k9_ hB1 hrd
          generalize ((w2.setCell ⟨w1.heap.size, 0, none⟩ (.int .i64 1)).setCell ⟨w1.heap.size, 1, none⟩ (.int .i64 q.nm)) = w3 at *
          have ha0 : ∀ o, (w3.alloc o).cell? ⟨w1.heap.size, 0, none⟩ = some (.int .i64 (st2 q).1) := fun o => old_cell (bl_one _ o) hs0'
          have ha1 : ∀ o, (w3.alloc o).cell? ⟨w1.heap.size, 1, none⟩ = some (.int .i64 (st2 q).2) := fun o => old_cell (bl_one _ o) hs1'
          go_region_law (first
            | (refine step_app35o (by rfl) (.tmp 72) (.tmp 73) (by rfl) w3.heap.size _ [] xs (by rfl) (rows_new w3 (Nat.le_refl _)) vs (by rfl) (hrd3.below (bl_1 _ _)) (by simp; omega) (bl_1 _ _).size ?_; intro v1 w4 hA1; have hb4 := app_below (bl_1 _ _) hA1 (rows_new w3 (Nat.le_refl _)); have hc0 := old_cell hb4 hs0'; have hc1 := old_cell hb4 hs1')
            | (refine step_app35o (by rfl) (.tmp 72) (.tmp 73) (by rfl) w3.heap.size _ [] xs (by rfl) (rows_new2 w3 _) vs (by rfl) (hrd3.below (bl_2 _ _ _)) (by simp; omega) (bl_2 _ _ _).size ?_; intro v1 w4 hA1; have hb4 := app_below (bl_2 _ _ _) hA1 (rows_new2 w3 _); have hsc := app_cells hA1 (ne_own (Nat.ne_of_lt (Nat.lt_succ_self _))) (two_cell1 w3 _ _ _))
            | (refine step_app35o (by rfl) (.tmp 72) (.tmp 73) (by rfl) w3.heap.size _ [] xs (by rfl) (rows_new3 w3 _) vs (by rfl) (hrd3.below (bl_2 _ _ _)) (by simp; omega) (bl_2 _ _ _).size ?_; intro v1 w4 hA1; have hb4 := app_below (bl_2 _ _ _) hA1 (rows_new3 w3 _); have hsc := app_cells hA1 (ne_own (Nat.ne_of_gt (Nat.lt_succ_self _))) (two_cell2 w3 _ _ _))
            | (refine step_app35 (by rfl) (.tmp 74) (.tmp 76) (by rfl) w3.heap.size v1 ([] ++ xs) [((st2 q).1, (st2 q).2)] (by rfl) hA1.row _ 1 1 (by rfl) rfl hsc (by simp; omega) hb4.size ?_; intro v2 w5 hA2; have hb5 := app_below hb4 hA2 hA1.row)
            | (refine step_app35 (by rfl) (.tmp 74) (.tmp 76) (by rfl) w3.heap.size v1 ([] ++ xs) [((st2 q).1, (st2 q).2)] (by rfl) (hA1.row.below (bl_one _ _)) _ 1 1 (by rfl) rfl (one_cell39 _ _ _) (by simp; omega) (Nat.le_trans hb4.size (bl_one _ _).size) ?_; intro v2 w5 hA2; have hb5 := app_below (bl_then hb4 (bl_one _ _)) hA2 (hA1.row.below (bl_one _ _))))
          all_goals
            go_wp2
            go_ret3
            exact ⟨⟨r0, v2, ok, _, rfl, hA2.row.rd, by simp; omega, rsteps_end HPM.out HP.out⟩, bl_then hB3 hb5⟩
        by_cases z13 : q.kd = 13
        · have z7 : ¬ q.kd = 7 := by omega
          have b12 : (q.kd == 12) = false := beq_eq_false_iff_ne.2 z12
          have n12 : (q.kd != 12) = true := by simp [z12]
          have b13 : (q.kd == 13) = true := beq_iff_eq.2 z13
          have n13 : (q.kd != 13) = false := by simp [z13]
          have b7 : (q.kd == 7) = false := beq_eq_false_iff_ne.2 z7
          have n7 : (q.kd != 7) = true := by simp [z7]
          by_cases hk1 : 1 < q.nk
          · obtain ⟨h10, h12⟩ := hsec hk1
            have hbl : b < w.heap.size := cell_lt h10
            have h10 := old_cell hB h10
            have h12 := old_cell hB h12
            have i1 : (1 : Int) < (q.nk : Int) := by omega
            clear hsec
            by_cases hs : q.sk = 1
            · have bs : (q.sk == 1) = true := beq_iff_eq.2 hs
              have HP := Lib.hid hp
              have hst : st2 q = (2, q.sn) := by unfold st2; rw [if_neg z12, if_pos z13, if_pos ⟨hk1, hs⟩]
              have HST := Lib.hid hst
              clear hp hst hor' z12 z13 z7 z4 hs
              go_enter Try.func8, Try.ntmps8
              go_wp2_with fail
              refine (HIH.out _ _ (hS1.below hB)).mono ?_
              rintro e w1 ⟨⟨r0, vs, ok, xs, rfl, hrd, hxs, hpm⟩, hb1⟩
              have HPM := Lib.hid hpm
              have hB1 := bl_then hB hb1
              have hX1 := hX.below hb1
              have hX2 := hX1.below (bl_one w1 (.cells #[.int .i64 4, .int .i64 0] 39))
              have hs0 : (w1.alloc (.cells #[.int .i64 4, .int .i64 0] 39)).cell? ⟨w1.heap.size, 0, none⟩ = some (.int .i64 4) := by simp [go_sem]
              have hs1 : (w1.alloc (.cells #[.int .i64 4, .int .i64 0] 39)).cell? ⟨w1.heap.size, 1, none⟩ = some (.int .i64 0) := by simp [go_sem]
              have hg0 : (w1.alloc (.cells #[.int .i64 4, .int .i64 0] 39)).frozen? ⟨w1.heap.size, 0, none⟩ = false := by simp [go_sem]
              have hg1 : (w1.alloc (.cells #[.int .i64 4, .int .i64 0] 39)).frozen? ⟨w1.heap.size, 1, none⟩ = false := by simp [go_sem]
              have hsx : w.heap.size < w1.heap.size := cell_lt hX1.k0
              have hbw := bl_one w1 (.cells #[.int .i64 4, .int .i64 0] 39)
              have hne1 : w1.heap.size ≠ w.heap.size := by omega
              have hne2 : w.heap.size ≠ w1.heap.size := by omega
              clear hpm hX hB hX1 q0 q1 q2 q3 q4 q5 q6 q7 q8 q9
              have h10 := old_cell (bl_one w1 (.cells #[.int .i64 4, .int .i64 0] 39)) (old_cell hb1 h10)
              have h12 := old_cell (bl_one w1 (.cells #[.int .i64 4, .int .i64 0] 39)) (old_cell hb1 h12)
              have hne3 : w1.heap.size ≠ b := by omega
              have hne4 : b ≠ w1.heap.size := by omega
              go_upto_region 7 with fail
              generalize w1.alloc (.cells #[.int .i64 4, .int .i64 0] 39) = w2 at *
              obtain ⟨k0, k1, k2, k3, k4, k5_, k6, k7, k8, k9_, _, _, _, _, _, _, _, _, _, _⟩ := hX2
              go_upto_region 13 with fail
              have hs0' : ((((w2.setCell ⟨w1.heap.size, 0, none⟩ (.int .i64 3)).setCell ⟨w1.heap.size, 1, none⟩ (.int .i64 0)).setCell ⟨w1.heap.size, 0, none⟩ (.int .i64 2)).setCell ⟨w1.heap.size, 1, none⟩ (.int .i64 q.sn)).cell? ⟨w1.heap.size, 0, none⟩ = some (.int .i64 (st2 q).1) := by rw [HST.out]; exact (set_far (by decide) (set_here (set_far (by decide) (set_here hs0))))
              have hs1' : ((((w2.setCell ⟨w1.heap.size, 0, none⟩ (.int .i64 3)).setCell ⟨w1.heap.size, 1, none⟩ (.int .i64 0)).setCell ⟨w1.heap.size, 0, none⟩ (.int .i64 2)).setCell ⟨w1.heap.size, 1, none⟩ (.int .i64 q.sn)).cell? ⟨w1.heap.size, 1, none⟩ = some (.int .i64 (st2 q).2) := by rw [HST.out]; exact (set_here (set_far (by decide) (set_here (set_far (by decide) hs1))))
              have hbw' : Below w1.heap.size w1 ((((w2.setCell ⟨w1.heap.size, 0, none⟩ (.int .i64 3)).setCell ⟨w1.heap.size, 1, none⟩ (.int .i64 0)).setCell ⟨w1.heap.size, 0, none⟩ (.int .i64 2)).setCell ⟨w1.heap.size, 1, none⟩ (.int .i64 q.sn)) := (bl_set (bl_set (bl_set (bl_set hbw (Nat.le_refl _)) (Nat.le_refl _)) (Nat.le_refl _)) (Nat.le_refl _))
              have hB3 := bl_then hB1 hbw'
              have hrd3 := hrd.below hbw'
              clear hbw' hbw hs0 hs1 hg0 hg1 k0 k1 k2 k3 k4 k5_ k6 k7 k8 k9_ hB1 hrd
              generalize ((((w2.setCell ⟨w1.heap.size, 0, none⟩ (.int .i64 3)).setCell ⟨w1.heap.size, 1, none⟩ (.int .i64 0)).setCell ⟨w1.heap.size, 0, none⟩ (.int .i64 2)).setCell ⟨w1.heap.size, 1, none⟩ (.int .i64 q.sn)) = w3 at *
              have ha0 : ∀ o, (w3.alloc o).cell? ⟨w1.heap.size, 0, none⟩ = some (.int .i64 (st2 q).1) := fun o => old_cell (bl_one _ o) hs0'
              have ha1 : ∀ o, (w3.alloc o).cell? ⟨w1.heap.size, 1, none⟩ = some (.int .i64 (st2 q).2) := fun o => old_cell (bl_one _ o) hs1'
              go_region_law (first
                | (refine step_app35o (by rfl) (.tmp 72) (.tmp 73) (by rfl) w3.heap.size _ [] xs (by rfl) (rows_new w3 (Nat.le_refl _)) vs (by rfl) (hrd3.below (bl_1 _ _)) (by simp; omega) (bl_1 _ _).size ?_; intro v1 w4 hA1; have hb4 := app_below (bl_1 _ _) hA1 (rows_new w3 (Nat.le_refl _)); have hc0 := old_cell hb4 hs0'; have hc1 := old_cell hb4 hs1')
                | (refine step_app35o (by rfl) (.tmp 72) (.tmp 73) (by rfl) w3.heap.size _ [] xs (by rfl) (rows_new2 w3 _) vs (by rfl) (hrd3.below (bl_2 _ _ _)) (by simp; omega) (bl_2 _ _ _).size ?_; intro v1 w4 hA1; have hb4 := app_below (bl_2 _ _ _) hA1 (rows_new2 w3 _); have hsc := app_cells hA1 (ne_own (Nat.ne_of_lt (Nat.lt_succ_self _))) (two_cell1 w3 _ _ _))
                | (refine step_app35o (by rfl) (.tmp 72) (.tmp 73) (by rfl) w3.heap.size _ [] xs (by rfl) (rows_new3 w3 _) vs (by rfl) (hrd3.below (bl_2 _ _ _)) (by simp; omega) (bl_2 _ _ _).size ?_; intro v1 w4 hA1; have hb4 := app_below (bl_2 _ _ _) hA1 (rows_new3 w3 _); have hsc := app_cells hA1 (ne_own (Nat.ne_of_gt (Nat.lt_succ_self _))) (two_cell2 w3 _ _ _))
                | (refine step_app35 (by rfl) (.tmp 74) (.tmp 76) (by rfl) w3.heap.size v1 ([] ++ xs) [((st2 q).1, (st2 q).2)] (by rfl) hA1.row _ 1 1 (by rfl) rfl hsc (by simp; omega) hb4.size ?_; intro v2 w5 hA2; have hb5 := app_below hb4 hA2 hA1.row)
                | (refine step_app35 (by rfl) (.tmp 74) (.tmp 76) (by rfl) w3.heap.size v1 ([] ++ xs) [((st2 q).1, (st2 q).2)] (by rfl) (hA1.row.below (bl_one _ _)) _ 1 1 (by rfl) rfl (one_cell39 _ _ _) (by simp; omega) (Nat.le_trans hb4.size (bl_one _ _).size) ?_; intro v2 w5 hA2; have hb5 := app_below (bl_then hb4 (bl_one _ _)) hA2 (hA1.row.below (bl_one _ _))))
              all_goals
                go_wp2
                go_ret3
                exact ⟨⟨r0, v2, ok, _, rfl, hA2.row.rd, by simp; omega, rsteps_end HPM.out HP.out⟩, bl_then hB3 hb5⟩
            · have bs : (q.sk == 1) = false := beq_eq_false_iff_ne.2 hs
              have HP := Lib.hid hp
              have hst : st2 q = (3, 0) := by unfold st2; rw [if_neg z12, if_pos z13, if_neg (fun h => hs h.2)]
              have HST := Lib.hid hst
              clear hp hst hor' z12 z13 z7 z4 hs
              go_enter Try.func8, Try.ntmps8
              go_wp2_with fail
              refine (HIH.out _ _ (hS1.below hB)).mono ?_
              rintro e w1 ⟨⟨r0, vs, ok, xs, rfl, hrd, hxs, hpm⟩, hb1⟩
              have HPM := Lib.hid hpm
              have hB1 := bl_then hB hb1
              have hX1 := hX.below hb1
              have hX2 := hX1.below (bl_one w1 (.cells #[.int .i64 4, .int .i64 0] 39))
              have hs0 : (w1.alloc (.cells #[.int .i64 4, .int .i64 0] 39)).cell? ⟨w1.heap.size, 0, none⟩ = some (.int .i64 4) := by simp [go_sem]
              have hs1 : (w1.alloc (.cells #[.int .i64 4, .int .i64 0] 39)).cell? ⟨w1.heap.size, 1, none⟩ = some (.int .i64 0) := by simp [go_sem]
              have hg0 : (w1.alloc (.cells #[.int .i64 4, .int .i64 0] 39)).frozen? ⟨w1.heap.size, 0, none⟩ = false := by simp [go_sem]
              have hg1 : (w1.alloc (.cells #[.int .i64 4, .int .i64 0] 39)).frozen? ⟨w1.heap.size, 1, none⟩ = false := by simp [go_sem]
              have hsx : w.heap.size < w1.heap.size := cell_lt hX1.k0
              have hbw := bl_one w1 (.cells #[.int .i64 4, .int .i64 0] 39)
              have hne1 : w1.heap.size ≠ w.heap.size := by omega
              have hne2 : w.heap.size ≠ w1.heap.size := by omega
              clear hpm hX hB hX1 q0 q1 q2 q3 q4 q5 q6 q7 q8 q9
              have h10 := old_cell (bl_one w1 (.cells #[.int .i64 4, .int .i64 0] 39)) (old_cell hb1 h10)
              have h12 := old_cell (bl_one w1 (.cells #[.int .i64 4, .int .i64 0] 39)) (old_cell hb1 h12)
              have hne3 : w1.heap.size ≠ b := by omega
              have hne4 : b ≠ w1.heap.size := by omega
              go_upto_region 7 with fail
              generalize w1.alloc (.cells #[.int .i64 4, .int .i64 0] 39) = w2 at *
              obtain ⟨k0, k1, k2, k3, k4, k5_, k6, k7, k8, k9_, _, _, _, _, _, _, _, _, _, _⟩ := hX2
              go_upto_region 13 with fail
              have hs0' : ((w2.setCell ⟨w1.heap.size, 0, none⟩ (.int .i64 3)).setCell ⟨w1.heap.size, 1, none⟩ (.int .i64 0)).cell? ⟨w1.heap.size, 0, none⟩ = some (.int .i64 (st2 q).1) := by rw [HST.out]; exact (set_far (by decide) (set_here hs0))
              have hs1' : ((w2.setCell ⟨w1.heap.size, 0, none⟩ (.int .i64 3)).setCell ⟨w1.heap.size, 1, none⟩ (.int .i64 0)).cell? ⟨w1.heap.size, 1, none⟩ = some (.int .i64 (st2 q).2) := by rw [HST.out]; exact (set_here (set_far (by decide) hs1))
              have hbw' : Below w1.heap.size w1 ((w2.setCell ⟨w1.heap.size, 0, none⟩ (.int .i64 3)).setCell ⟨w1.heap.size, 1, none⟩ (.int .i64 0)) := (bl_set (bl_set hbw (Nat.le_refl _)) (Nat.le_refl _))
              have hB3 := bl_then hB1 hbw'
              have hrd3 := hrd.below hbw'
              clear hbw' hbw hs0 hs1 hg0 hg1 k0 k1 k2 k3 k4 k5_ k6 k7 k8 k9_ hB1 hrd
              generalize ((w2.setCell ⟨w1.heap.size, 0, none⟩ (.int .i64 3)).setCell ⟨w1.heap.size, 1, none⟩ (.int .i64 0)) = w3 at *
              have ha0 : ∀ o, (w3.alloc o).cell? ⟨w1.heap.size, 0, none⟩ = some (.int .i64 (st2 q).1) := fun o => old_cell (bl_one _ o) hs0'
              have ha1 : ∀ o, (w3.alloc o).cell? ⟨w1.heap.size, 1, none⟩ = some (.int .i64 (st2 q).2) := fun o => old_cell (bl_one _ o) hs1'
              go_region_law (first
                | (refine step_app35o (by rfl) (.tmp 72) (.tmp 73) (by rfl) w3.heap.size _ [] xs (by rfl) (rows_new w3 (Nat.le_refl _)) vs (by rfl) (hrd3.below (bl_1 _ _)) (by simp; omega) (bl_1 _ _).size ?_; intro v1 w4 hA1; have hb4 := app_below (bl_1 _ _) hA1 (rows_new w3 (Nat.le_refl _)); have hc0 := old_cell hb4 hs0'; have hc1 := old_cell hb4 hs1')
                | (refine step_app35o (by rfl) (.tmp 72) (.tmp 73) (by rfl) w3.heap.size _ [] xs (by rfl) (rows_new2 w3 _) vs (by rfl) (hrd3.below (bl_2 _ _ _)) (by simp; omega) (bl_2 _ _ _).size ?_; intro v1 w4 hA1; have hb4 := app_below (bl_2 _ _ _) hA1 (rows_new2 w3 _); have hsc := app_cells hA1 (ne_own (Nat.ne_of_lt (Nat.lt_succ_self _))) (two_cell1 w3 _ _ _))
                | (refine step_app35o (by rfl) (.tmp 72) (.tmp 73) (by rfl) w3.heap.size _ [] xs (by rfl) (rows_new3 w3 _) vs (by rfl) (hrd3.below (bl_2 _ _ _)) (by simp; omega) (bl_2 _ _ _).size ?_; intro v1 w4 hA1; have hb4 := app_below (bl_2 _ _ _) hA1 (rows_new3 w3 _); have hsc := app_cells hA1 (ne_own (Nat.ne_of_gt (Nat.lt_succ_self _))) (two_cell2 w3 _ _ _))
                | (refine step_app35 (by rfl) (.tmp 74) (.tmp 76) (by rfl) w3.heap.size v1 ([] ++ xs) [((st2 q).1, (st2 q).2)] (by rfl) hA1.row _ 1 1 (by rfl) rfl hsc (by simp; omega) hb4.size ?_; intro v2 w5 hA2; have hb5 := app_below hb4 hA2 hA1.row)
                | (refine step_app35 (by rfl) (.tmp 74) (.tmp 76) (by rfl) w3.heap.size v1 ([] ++ xs) [((st2 q).1, (st2 q).2)] (by rfl) (hA1.row.below (bl_one _ _)) _ 1 1 (by rfl) rfl (one_cell39 _ _ _) (by simp; omega) (Nat.le_trans hb4.size (bl_one _ _).size) ?_; intro v2 w5 hA2; have hb5 := app_below (bl_then hb4 (bl_one _ _)) hA2 (hA1.row.below (bl_one _ _))))
              all_goals
                go_wp2
                go_ret3
                exact ⟨⟨r0, v2, ok, _, rfl, hA2.row.rd, by simp; omega, rsteps_end HPM.out HP.out⟩, bl_then hB3 hb5⟩
          · have i1 : ¬ (1 : Int) < (q.nk : Int) := by omega
            have i2 : decide (1 < q.nk) = false := decide_eq_false hk1
            have HP := Lib.hid hp
            have hst : st2 q = (3, 0) := by unfold st2; rw [if_neg z12, if_pos z13, if_neg (fun h => hk1 h.1)]
            have HST := Lib.hid hst
            clear hp hst hor' z12 z13 z7 z4 hk1 hsec
            go_enter Try.func8, Try.ntmps8
            go_wp2_with fail
            refine (HIH.out _ _ (hS1.below hB)).mono ?_
            rintro e w1 ⟨⟨r0, vs, ok, xs, rfl, hrd, hxs, hpm⟩, hb1⟩
            have HPM := Lib.hid hpm
            have hB1 := bl_then hB hb1
            have hX1 := hX.below hb1
            have hX2 := hX1.below (bl_one w1 (.cells #[.int .i64 4, .int .i64 0] 39))
            have hs0 : (w1.alloc (.cells #[.int .i64 4, .int .i64 0] 39)).cell? ⟨w1.heap.size, 0, none⟩ = some (.int .i64 4) := by simp [go_sem]
            have hs1 : (w1.alloc (.cells #[.int .i64 4, .int .i64 0] 39)).cell? ⟨w1.heap.size, 1, none⟩ = some (.int .i64 0) := by simp [go_sem]
            have hg0 : (w1.alloc (.cells #[.int .i64 4, .int .i64 0] 39)).frozen? ⟨w1.heap.size, 0, none⟩ = false := by simp [go_sem]
            have hg1 : (w1.alloc (.cells #[.int .i64 4, .int .i64 0] 39)).frozen? ⟨w1.heap.size, 1, none⟩ = false := by simp [go_sem]
            have hsx : w.heap.size < w1.heap.size := cell_lt hX1.k0
            have hbw := bl_one w1 (.cells #[.int .i64 4, .int .i64 0] 39)
            have hne1 : w1.heap.size ≠ w.heap.size := by omega
            have hne2 : w.heap.size ≠ w1.heap.size := by omega
            clear hpm hX hB hX1 q0 q1 q2 q3 q4 q5 q6 q7 q8 q9
            go_upto_region 7 with fail
            generalize w1.alloc (.cells #[.int .i64 4, .int .i64 0] 39) = w2 at *
            obtain ⟨k0, k1, k2, k3, k4, k5_, k6, k7, k8, k9_, _, _, _, _, _, _, _, _, _, _⟩ := hX2
            go_upto_region 13 with fail
            have hs0' : ((w2.setCell ⟨w1.heap.size, 0, none⟩ (.int .i64 3)).setCell ⟨w1.heap.size, 1, none⟩ (.int .i64 0)).cell? ⟨w1.heap.size, 0, none⟩ = some (.int .i64 (st2 q).1) := by rw [HST.out]; exact (set_far (by decide) (set_here hs0))
            have hs1' : ((w2.setCell ⟨w1.heap.size, 0, none⟩ (.int .i64 3)).setCell ⟨w1.heap.size, 1, none⟩ (.int .i64 0)).cell? ⟨w1.heap.size, 1, none⟩ = some (.int .i64 (st2 q).2) := by rw [HST.out]; exact (set_here (set_far (by decide) hs1))
            have hbw' : Below w1.heap.size w1 ((w2.setCell ⟨w1.heap.size, 0, none⟩ (.int .i64 3)).setCell ⟨w1.heap.size, 1, none⟩ (.int .i64 0)) := (bl_set (bl_set hbw (Nat.le_refl _)) (Nat.le_refl _))
            have hB3 := bl_then hB1 hbw'
            have hrd3 := hrd.below hbw'
            clear hbw' hbw hs0 hs1 hg0 hg1 k0 k1 k2 k3 k4 k5_ k6 k7 k8 k9_ hB1 hrd
            generalize ((w2.setCell ⟨w1.heap.size, 0, none⟩ (.int .i64 3)).setCell ⟨w1.heap.size, 1, none⟩ (.int .i64 0)) = w3 at *
            have ha0 : ∀ o, (w3.alloc o).cell? ⟨w1.heap.size, 0, none⟩ = some (.int .i64 (st2 q).1) := fun o => old_cell (bl_one _ o) hs0'
            have ha1 : ∀ o, (w3.alloc o).cell? ⟨w1.heap.size, 1, none⟩ = some (.int .i64 (st2 q).2) := fun o => old_cell (bl_one _ o) hs1'
            go_region_law (first
              | (refine step_app35o (by rfl) (.tmp 72) (.tmp 73) (by rfl) w3.heap.size _ [] xs (by rfl) (rows_new w3 (Nat.le_refl _)) vs (by rfl) (hrd3.below (bl_1 _ _)) (by simp; omega) (bl_1 _ _).size ?_; intro v1 w4 hA1; have hb4 := app_below (bl_1 _ _) hA1 (rows_new w3 (Nat.le_refl _)); have hc0 := old_cell hb4 hs0'; have hc1 := old_cell hb4 hs1')
              | (refine step_app35o (by rfl) (.tmp 72) (.tmp 73) (by rfl) w3.heap.size _ [] xs (by rfl) (rows_new2 w3 _) vs (by rfl) (hrd3.below (bl_2 _ _ _)) (by simp; omega) (bl_2 _ _ _).size ?_; intro v1 w4 hA1; have hb4 := app_below (bl_2 _ _ _) hA1 (rows_new2 w3 _); have hsc := app_cells hA1 (ne_own (Nat.ne_of_lt (Nat.lt_succ_self _))) (two_cell1 w3 _ _ _))
              | (refine step_app35o (by rfl) (.tmp 72) (.tmp 73) (by rfl) w3.heap.size _ [] xs (by rfl) (rows_new3 w3 _) vs (by rfl) (hrd3.below (bl_2 _ _ _)) (by simp; omega) (bl_2 _ _ _).size ?_; intro v1 w4 hA1; have hb4 := app_below (bl_2 _ _ _) hA1 (rows_new3 w3 _); have hsc := app_cells hA1 (ne_own (Nat.ne_of_gt (Nat.lt_succ_self _))) (two_cell2 w3 _ _ _))
              | (refine step_app35 (by rfl) (.tmp 74) (.tmp 76) (by rfl) w3.heap.size v1 ([] ++ xs) [((st2 q).1, (st2 q).2)] (by rfl) hA1.row _ 1 1 (by rfl) rfl hsc (by simp; omega) hb4.size ?_; intro v2 w5 hA2; have hb5 := app_below hb4 hA2 hA1.row)
              | (refine step_app35 (by rfl) (.tmp 74) (.tmp 76) (by rfl) w3.heap.size v1 ([] ++ xs) [((st2 q).1, (st2 q).2)] (by rfl) (hA1.row.below (bl_one _ _)) _ 1 1 (by rfl) rfl (one_cell39 _ _ _) (by simp; omega) (Nat.le_trans hb4.size (bl_one _ _).size) ?_; intro v2 w5 hA2; have hb5 := app_below (bl_then hb4 (bl_one _ _)) hA2 (hA1.row.below (bl_one _ _))))
            all_goals
              go_wp2
              go_ret3
              exact ⟨⟨r0, v2, ok, _, rfl, hA2.row.rd, by simp; omega, rsteps_end HPM.out HP.out⟩, bl_then hB3 hb5⟩
        · have z7 : q.kd = 7 := hor'.elim (fun h => absurd h z12) (fun h => h.elim (fun h => absurd h z13) id)
          have b12 : (q.kd == 12) = false := beq_eq_false_iff_ne.2 z12
          have n12 : (q.kd != 12) = true := by simp [z12]
          have b13 : (q.kd == 13) = false := beq_eq_false_iff_ne.2 z13
          have n13 : (q.kd != 13) = true := by simp [z13]
          have b7 : (q.kd == 7) = true := beq_iff_eq.2 z7
          have n7 : (q.kd != 7) = false := by simp [z7]
          have HP := Lib.hid hp
          have hst : st2 q = (4, 0) := by unfold st2; rw [if_neg z12, if_neg z13]
          have HST := Lib.hid hst
          clear hp hst hor' z12 z13 z7 z4 hsec
          go_enter Try.func8, Try.ntmps8
          go_wp2_with fail
          refine (HIH.out _ _ (hS1.below hB)).mono ?_
          rintro e w1 ⟨⟨r0, vs, ok, xs, rfl, hrd, hxs, hpm⟩, hb1⟩
          have HPM := Lib.hid hpm
          have hB1 := bl_then hB hb1
          have hX1 := hX.below hb1
          have hX2 := hX1.below (bl_one w1 (.cells #[.int .i64 4, .int .i64 0] 39))
          have hs0 : (w1.alloc (.cells #[.int .i64 4, .int .i64 0] 39)).cell? ⟨w1.heap.size, 0, none⟩ = some (.int .i64 4) := by simp [go_sem]
          have hs1 : (w1.alloc (.cells #[.int .i64 4, .int .i64 0] 39)).cell? ⟨w1.heap.size, 1, none⟩ = some (.int .i64 0) := by simp [go_sem]
          have hg0 : (w1.alloc (.cells #[.int .i64 4, .int .i64 0] 39)).frozen? ⟨w1.heap.size, 0, none⟩ = false := by simp [go_sem]
          have hg1 : (w1.alloc (.cells #[.int .i64 4, .int .i64 0] 39)).frozen? ⟨w1.heap.size, 1, none⟩ = false := by simp [go_sem]
          have hsx : w.heap.size < w1.heap.size := cell_lt hX1.k0
          have hbw := bl_one w1 (.cells #[.int .i64 4, .int .i64 0] 39)
          have hne1 : w1.heap.size ≠ w.heap.size := by omega
          have hne2 : w.heap.size ≠ w1.heap.size := by omega
          clear hpm hX hB hX1 q0 q1 q2 q3 q4 q5 q6 q7 q8 q9
          go_upto_region 7 with fail
          generalize w1.alloc (.cells #[.int .i64 4, .int .i64 0] 39) = w2 at *
          obtain ⟨k0, k1, k2, k3, k4, k5_, k6, k7, k8, k9_, _, _, _, _, _, _, _, _, _, _⟩ := hX2
          go_upto_region 13 with fail
          have hs0' : w2.cell? ⟨w1.heap.size, 0, none⟩ = some (.int .i64 (st2 q).1) := by rw [HST.out]; exact hs0
          have hs1' : w2.cell? ⟨w1.heap.size, 1, none⟩ = some (.int .i64 (st2 q).2) := by rw [HST.out]; exact hs1
          have hbw' : Below w1.heap.size w1 w2 := hbw
          have hB3 := bl_then hB1 hbw'
          have hrd3 := hrd.below hbw'
          clear hbw' hbw hs0 hs1 hg0 hg1 k0 k1 k2 k3 k4 k5_ k6 k7 k8 k9_ hB1 hrd
          generalize w2 = w3 at *
          have ha0 : ∀ o, (w3.alloc o).cell? ⟨w1.heap.size, 0, none⟩ = some (.int .i64 (st2 q).1) := fun o => old_cell (bl_one _ o) hs0'
          have ha1 : ∀ o, (w3.alloc o).cell? ⟨w1.heap.size, 1, none⟩ = some (.int .i64 (st2 q).2) := fun o => old_cell (bl_one _ o) hs1'
          go_region_law (first
            | (refine step_app35o (by rfl) (.tmp 72) (.tmp 73) (by rfl) w3.heap.size _ [] xs (by rfl) (rows_new w3 (Nat.le_refl _)) vs (by rfl) (hrd3.below (bl_1 _ _)) (by simp; omega) (bl_1 _ _).size ?_; intro v1 w4 hA1; have hb4 := app_below (bl_1 _ _) hA1 (rows_new w3 (Nat.le_refl _)); have hc0 := old_cell hb4 hs0'; have hc1 := old_cell hb4 hs1')
            | (refine step_app35o (by rfl) (.tmp 72) (.tmp 73) (by rfl) w3.heap.size _ [] xs (by rfl) (rows_new2 w3 _) vs (by rfl) (hrd3.below (bl_2 _ _ _)) (by simp; omega) (bl_2 _ _ _).size ?_; intro v1 w4 hA1; have hb4 := app_below (bl_2 _ _ _) hA1 (rows_new2 w3 _); have hsc := app_cells hA1 (ne_own (Nat.ne_of_lt (Nat.lt_succ_self _))) (two_cell1 w3 _ _ _))
            | (refine step_app35o (by rfl) (.tmp 72) (.tmp 73) (by rfl) w3.heap.size _ [] xs (by rfl) (rows_new3 w3 _) vs (by rfl) (hrd3.below (bl_2 _ _ _)) (by simp; omega) (bl_2 _ _ _).size ?_; intro v1 w4 hA1; have hb4 := app_below (bl_2 _ _ _) hA1 (rows_new3 w3 _); have hsc := app_cells hA1 (ne_own (Nat.ne_of_gt (Nat.lt_succ_self _))) (two_cell2 w3 _ _ _))
            | (refine step_app35 (by rfl) (.tmp 74) (.tmp 76) (by rfl) w3.heap.size v1 ([] ++ xs) [((st2 q).1, (st2 q).2)] (by rfl) hA1.row _ 1 1 (by rfl) rfl hsc (by simp; omega) hb4.size ?_; intro v2 w5 hA2; have hb5 := app_below hb4 hA2 hA1.row)
            | (refine step_app35 (by rfl) (.tmp 74) (.tmp 76) (by rfl) w3.heap.size v1 ([] ++ xs) [((st2 q).1, (st2 q).2)] (by rfl) (hA1.row.below (bl_one _ _)) _ 1 1 (by rfl) rfl (one_cell39 _ _ _) (by simp; omega) (Nat.le_trans hb4.size (bl_one _ _).size) ?_; intro v2 w5 hA2; have hb5 := app_below (bl_then hb4 (bl_one _ _)) hA2 (hA1.row.below (bl_one _ _))))
          all_goals
            go_wp2
            go_ret3
            exact ⟨⟨r0, v2, ok, _, rfl, hA2.row.rd, by simp; omega, rsteps_end HPM.out HP.out⟩, bl_then hB3 hb5⟩
      · have hp : path (q :: l) = none := by rw [path_cons, if_neg z4, if_neg hok]
        have HP := Lib.hid hp
        clear hp
        by_cases hk : q.nk = 0
        · have hd0 : (q.nk == 0) = true := beq_iff_eq.2 hk
          have hd1 : ((q.nk : Int) == 0) = true := beq_iff_eq.2 (by omega)
          have HK := Lib.hid hk
          clear hk hok
          by_cases z12 : q.kd = 12
          · have z13 : ¬ q.kd = 13 := by omega
            have z7 : ¬ q.kd = 7 := by omega
            have b12 : (q.kd == 12) = true := beq_iff_eq.2 z12
            have n12 : (q.kd != 12) = false := by simp [z12]
            have b13 : (q.kd == 13) = false := beq_eq_false_iff_ne.2 z13
            have n13 : (q.kd != 13) = true := by simp [z13]
            have b7 : (q.kd == 7) = false := beq_eq_false_iff_ne.2 z7
            have n7 : (q.kd != 7) = true := by simp [z7]
            clear z12 z13 z7 z4
            go_enter Try.func8, Try.ntmps8
            go_wp2
            go_ret3
            exact ⟨⟨0, _, false, [], rfl, Or.inl ⟨rfl, rfl⟩, by simp, by rw [HP.out]⟩, hB⟩
          by_cases z13 : q.kd = 13
          · have z7 : ¬ q.kd = 7 := by omega
            have b12 : (q.kd == 12) = false := beq_eq_false_iff_ne.2 z12
            have n12 : (q.kd != 12) = true := by simp [z12]
            have b13 : (q.kd == 13) = true := beq_iff_eq.2 z13
            have n13 : (q.kd != 13) = false := by simp [z13]
            have b7 : (q.kd == 7) = false := beq_eq_false_iff_ne.2 z7
            have n7 : (q.kd != 7) = true := by simp [z7]
            clear z12 z13 z7 z4
            go_enter Try.func8, Try.ntmps8
            go_wp2
            go_ret3
            exact ⟨⟨0, _, false, [], rfl, Or.inl ⟨rfl, rfl⟩, by simp, by rw [HP.out]⟩, hB⟩
          by_cases z7 : q.kd = 7
          · have b12 : (q.kd == 12) = false := beq_eq_false_iff_ne.2 z12
            have n12 : (q.kd != 12) = true := by simp [z12]
            have b13 : (q.kd == 13) = false := beq_eq_false_iff_ne.2 z13
            have n13 : (q.kd != 13) = true := by simp [z13]
            have b7 : (q.kd == 7) = true := beq_iff_eq.2 z7
            have n7 : (q.kd != 7) = false := by simp [z7]
            clear z12 z13 z7 z4
            go_enter Try.func8, Try.ntmps8
            go_wp2
            go_ret3
            exact ⟨⟨0, _, false, [], rfl, Or.inl ⟨rfl, rfl⟩, by simp, by rw [HP.out]⟩, hB⟩
          · have b12 : (q.kd == 12) = false := beq_eq_false_iff_ne.2 z12
            have n12 : (q.kd != 12) = true := by simp [z12]
            have b13 : (q.kd == 13) = false := beq_eq_false_iff_ne.2 z13
            have n13 : (q.kd != 13) = true := by simp [z13]
            have b7 : (q.kd == 7) = false := beq_eq_false_iff_ne.2 z7
            have n7 : (q.kd != 7) = true := by simp [z7]
            clear z12 z13 z7 z4
            go_enter Try.func8, Try.ntmps8
            go_wp2
            go_ret3
            exact ⟨⟨0, _, false, [], rfl, Or.inl ⟨rfl, rfl⟩, by simp, by rw [HP.out]⟩, hB⟩
        · have z12 : ¬ q.kd = 12 := fun h => hok ⟨Or.inl h, hk⟩
          have z13 : ¬ q.kd = 13 := fun h => hok ⟨Or.inr (Or.inl h), hk⟩
          have z7 : ¬ q.kd = 7 := fun h => hok ⟨Or.inr (Or.inr h), hk⟩
          have b12 : (q.kd == 12) = false := beq_eq_false_iff_ne.2 z12
          have n12 : (q.kd != 12) = true := by simp [z12]
          have b13 : (q.kd == 13) = false := beq_eq_false_iff_ne.2 z13
          have n13 : (q.kd != 13) = true := by simp [z13]
          have b7 : (q.kd == 7) = false := beq_eq_false_iff_ne.2 z7
          have n7 : (q.kd != 7) = true := by simp [z7]
          clear hok hk
          clear z12 z13 z7 z4
          go_enter Try.func8, Try.ntmps8
          go_wp2
          go_ret3
          exact ⟨⟨0, _, false, [], rfl, Or.inl ⟨rfl, rfl⟩, by simp, by rw [HP.out]⟩, hB⟩
end Go.Proofs.Ytfhlmbdjfpoapaa
