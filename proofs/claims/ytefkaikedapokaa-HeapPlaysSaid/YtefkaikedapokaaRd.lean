/- Contracts of the reference heap: Alloc. -/
import Derived.Test.YtefkaikedapokaaRp
import Derived.Deep.RegionHeld3
import Derived.Deep.DrawnRows
namespace Go.Proofs.Ytefkaikedapokaa
open Go.RowKit
set_option linter.unusedSimpArgs false
set_option linter.unusedVariables false

theorem first_at {α : Type} {L : List α} {p : α} (h : p ∈ L) : ∃ i : Nat, L[i]? = some p ∧ ∀ (j : Nat) (q : α), j < i → L[j]? = some q → q ≠ p := by
  induction L with
  | nil => cases h
  | cons a L ih =>
    by_cases e : a = p
    · exact ⟨0, by simp [e], fun j q hj => absurd hj (Nat.not_lt_zero _)⟩
    · have h' : p ∈ L := by
        rcases List.mem_cons.1 h with h | h
        · exact absurd h.symm e
        · exact h
      obtain ⟨i, h1, h2⟩ := ih h'
      refine ⟨i + 1, by simpa using h1, fun j q hj hq => ?_⟩
      cases j with
      | zero => simp at hq; rw [← hq]; exact e
      | succ j => exact h2 j q (by omega) (by simpa using hq)

/-- What Alloc and Free of the reference may turn: the heap's own cell, the row of its blocks. -/
structure Rb (base rg : Nat) (v : Value) (w : World) (v' : Value) (w' : World) : Prop where
  below : Below base w w'
  block : ∀ b, b < w.heap.size → b ≠ rg → v.ownBlock ≠ some b → w'.heap[b]? = w.heap[b]?
  own : ∀ b, v'.ownBlock = some b → v.ownBlock = some b ∨ w.heap.size ≤ b

theorem infoB : (Try.prog.info? 59).map (fun i => (i.zero, i.size, i.bytes)) = some (some (.agg #[.int .i64 0, .int .i64 0, .int .i64 0]), 3, 24) := by kernel_rfl

structure AppB (w1 : World) (base : Nat) (v : Value) (L M : List (Nat × Nat)) (v' : Value) (w' : World) : Prop where
  row : Blks w' base v' (L ++ M)
  grown : w1.grownBy w' v.ownBlock
  at_ : v'.ownBlock = v.ownBlock ∨ v'.ownBlock = some w1.heap.size

theorem run_appB {w : World} {base : Nat} {v : Value} {L M : List (Nat × Nat)} (hown : Blks w base v L) (ty : TypeId) (ad : Addr) (c : Nat) (hn : ∀ j u, (bcells M)[j]? = some u → w.cell? (ad.add j) = some u) (hl : L.length + M.length < 1000000000) (hbase : base ≤ w.heap.size) :
    ∃ v' w', (Builtin.append_ #[35, 35] ty #[v, .slice (some ad) M.length c]).run Try.prog w = .ok v' w' ∧ AppB w base v L M v' w' := by
  obtain ⟨i0, hi, hz0, hz1, hz2⟩ := info_parts infoB
  obtain ⟨v', w', h1, h2, h3, _, h5⟩ := run_append_own_at (P := Try.prog) w base 35 ty 59 i0 (.agg #[.int .i64 0, .int .i64 0, .int .i64 0]) 3 24 Try.underlying35 hi hz0 hz1 hz2 rfl (by decide) v L.length _ hown ad M.length c (bcells M) (bcells_len M)
    hn (fun u hu => by
      obtain ⟨p, _, hp⟩ := List.mem_flatMap.1 hu
      simp only [bcell, List.mem_cons, List.not_mem_nil, or_false] at hp
      rcases hp with rfl | rfl | rfl <;> rfl) (by unfold maxLen; omega) (by omega) hbase
  refine ⟨v', w', h1, ?_, h3, h5⟩
  unfold Blks
  rw [bcells_app, List.length_append]
  exact h2

theorem wp_appB {o : Oper} {a : Act} {w : World} {K : Act → World → Prop} {Q : Exit → Act → World → Prop} (s x : Operand) (ho : o.op = .call { callee := .builtin .append, args := #[s, x], argTypes := #[35, 35] })
    (base : Nat) (v : Value) (L M : List (Nat × Nat)) (hs : a.eval s = v) (hown : Blks w base v L) (ad : Addr) (m c : Nat) (hx : a.eval x = .slice (some ad) m c) (hm : m = M.length)
    (hn : ∀ j u, (bcells M)[j]? = some u → w.cell? (ad.add j) = some u) (hl : L.length + M.length < 1000000000) (hbase : base ≤ w.heap.size)
    (hK : ∀ v' w', AppB w base v L M v' w' → K (a.put o.dst v') w') : Oper.wp Try.prog o a w K Q := by
  subst hm
  obtain ⟨v', w', hr, h⟩ := run_appB hown o.type ad c hn hl hbase
  unfold Oper.wp execOp
  simp only [ho, resolve, invoke, builtin, Sem.run_bind, Sem.run_pure, Result.andThen_ok, List.map_toArray, List.map_cons, List.map_nil, hs, hx, hr]
  exact hK _ _ h
theorem step_appB {ops : Array Oper} {o : Oper} {a : Act} {w : World} {K : Act → World → Prop} {Q : Exit → Act → World → Prop} {E : Prop} (hgd : o.guard = none) (s x : Operand)
    (ho : o.op = .call { callee := .builtin .append, args := #[s, x], argTypes := #[35, 35] })
    (base : Nat) (v : Value) (L M : List (Nat × Nat)) (hs : a.eval s = v) (hown : Blks w base v L) (ad : Addr) (m c : Nat) (hx : a.eval x = .slice (some ad) m c) (hm : m = M.length)
    (hn : ∀ j u, (bcells M)[j]? = some u → w.cell? (ad.add j) = some u) (hl : L.length + M.length < 1000000000) (hbase : base ≤ w.heap.size)
    (hK : ∀ v' w', AppB w base v L M v' w' → K (a.put o.dst v') w') :
    if Region.wanted o (yielded ops a.tmps) = true then Oper.wp Try.prog o a w K Q else E := by
  have hw : Region.wanted o (yielded ops a.tmps) = true := by simp [Region.wanted, hgd]
  rw [if_pos hw]
  exact wp_appB s x ho base v L M hs hown ad m c hx hm hn hl hbase hK

theorem appB_cell {w w' : World} {base rg : Nat} {v v' u : Value} {L M : List (Nat × Nat)} (hA : AppB w base v L M v' w') (hne : v.ownBlock ≠ some rg) (hc : w.cell? ⟨rg, 0, none⟩ = some u) : w'.cell? ⟨rg, 0, none⟩ = some u :=
  (World.cell?_of_block (w := w) (hA.grown.block rg (cell_lt hc) (fun e => hne e.symm))).trans hc
theorem appB_frz {w w' : World} {base rg : Nat} {v v' : Value} {L M : List (Nat × Nat)} (hA : AppB w base v L M v' w') (hne : v.ownBlock ≠ some rg) (hl : rg < w.heap.size) (hc : w.frozen? ⟨rg, 0, none⟩ = false) : w'.frozen? ⟨rg, 0, none⟩ = false :=
  (World.frozen?_of_block (w := w) (hA.grown.block rg hl (fun e => hne e.symm))).trans hc
theorem alloc_frz {w : World} {rg : Nat} {v : Value} (o : Obj) (hc : w.cell? ⟨rg, 0, none⟩ = some v) (hf : w.frozen? ⟨rg, 0, none⟩ = false) : (w.alloc o).frozen? ⟨rg, 0, none⟩ = false := ((bl_one w o).frozen (cell_lt hc)).trans hf
theorem appB_frz' {w w' : World} {base rg : Nat} {v v' u : Value} {L M : List (Nat × Nat)} {o : Obj} (hA : AppB (w.alloc o) base v L M v' w') (hne : v.ownBlock ≠ some rg) (hc : w.cell? ⟨rg, 0, none⟩ = some u) (hf : w.frozen? ⟨rg, 0, none⟩ = false) : w'.frozen? ⟨rg, 0, none⟩ = false :=
  appB_frz hA hne (Nat.lt_of_lt_of_le (cell_lt hc) (bl_one w o).size) (alloc_frz o hc hf)
theorem old_frz {w w' : World} (hb : Below w.heap.size w w') {g o : Nat} (hl : g < w.heap.size) (h : w.frozen? ⟨g, o, none⟩ = false) : w'.frozen? ⟨g, o, none⟩ = false := (hb.frozen hl).trans h
/-- Behind the store: the reference heap with one block more, and what else may have turned. -/
theorem ref_next {w w1 w3 : World} {base rg : Nat} {v v' : Value} {L M : List (Nat × Nat)} (hR : RefAt w base rg v L) (hb : Below w.heap.size w w1) (hA : AppB w1 base v L M v' w3) (hl : (L ++ M).length ≤ 1000) (hbs : base ≤ w.heap.size) :
    RefAt (w3.setCell ⟨rg, 0, none⟩ v') base rg v' (L ++ M) ∧ Rb base rg v w v' (w3.setCell ⟨rg, 0, none⟩ v') := by
  have hR1 := hR.below hb
  have hrl : rg < w1.heap.size := cell_lt hR1.cell
  have hc3 := appB_cell hA hR.apart hR1.cell
  have hf3 := appB_frz hA hR.apart hrl hR1.frz
  have hap : v'.ownBlock ≠ some rg := fun e => by
    rcases hA.at_ with e' | e'
    · exact hR.apart (e'.symm.trans e)
    · rw [e'] at e; injection e with e; omega
  have hge : ∀ b, v.ownBlock = some b → base ≤ b := fun b hb' => by
    obtain ⟨_, h2⟩ := hR.row
    rcases h2 with ⟨h2, _⟩ | ⟨g, cap, cur, hv, hg, _⟩
    · rw [h2] at hb'; cases hb'
    · rw [hv] at hb'; injection hb' with hb'; subst hb'; exact hg
  refine ⟨⟨World.cell?_setCell_same _ _ _ hc3, by rw [World.frozen?_setCell]; exact hf3, ?_, hap, hl, hR.lt⟩, ⟨?_, ?_, ?_⟩⟩
  · obtain ⟨h1, h2⟩ := hA.row
    refine ⟨h1, ?_⟩
    rcases h2 with h2 | ⟨g, cap, cur, hv, hg, hh, r⟩
    · exact Or.inl h2
    · refine Or.inr ⟨g, cap, cur, hv, hg, ?_, r⟩
      rw [Below.heap_setCell _ _ _ _ (fun e => hap (by rw [hv]; show some g = some rg; rw [e]))]
      exact hh
  · refine (Below.setCell ?_ (p := ⟨rg, 0, none⟩) hR.lt v')
    exact (hb.mono hbs).grown hA.grown (Nat.le_trans hbs hb.size) hge
  · intro b hbl hb1 hb2
    rw [Below.heap_setCell _ _ _ _ hb1, hA.grown.block b (Nat.lt_of_lt_of_le hbl hb.size) (fun e => hb2 e.symm), hb.block b hbl]
  · intro b h
    rcases hA.at_ with e | e
    · exact Or.inl (e.symm.trans h)
    · rw [e] at h; injection h with h; have := hb.size; exact Or.inr (by omega)
theorem one_cells (w : World) (k j : Nat) : ∀ i u, (bcells [(k, j)])[i]? = some u → (w.alloc (.cells #[.int .i64 (addr k j : Nat), .int .i64 (k : Nat), .int .i64 (sz k : Nat)] 59)).cell? ((⟨w.heap.size, 0, none⟩ : Addr).add i) = some u := by
  intro i u h
  match i, h with
  | 0, h => simp [bcells, bcell] at h; subst h; simp [Addr.add, go_sem]
  | 1, h => simp [bcells, bcell] at h; subst h; simp [Addr.add, go_sem]
  | 2, h => simp [bcells, bcell] at h; subst h; simp [Addr.add, go_sem]
  | i + 3, h => simp [bcells, bcell] at h

theorem blks_len1 {w : World} {base : Nat} {v : Value} {L : List (Nat × Nat)} {p : Nat × Nat} (h : Blks w base v (L ++ [p])) : ∃ A cap, v = .slice A (L.length + 1) cap := by
  obtain ⟨A, cap, e⟩ := blks_len h
  exact ⟨A, cap, by rw [e, List.length_append]; rfl⟩

attribute [local go_sem ↓] Go.wp_at_zero Go.wp_at_succ
/-- place(k, i) as one step of a region that draws its order. -/
theorem step_place {ops : Array Oper} {o : Oper} {a : Act} {w : World} {K : Act → World → Prop} {Q : Exit → Act → World → Prop} {E : Prop} (hgd : o.guard = none) (s1 s2 : Operand)
    (ho : o.op = .call { callee := .value (.func 22), args := #[s1, s2], argTypes := #[3, 3] }) (k i : Nat) (hs1 : a.eval s1 = .int .i64 (k : Nat)) (hs2 : a.eval s2 = .int .i64 (i : Nat)) (hk : k < 4) (hi : i < nb k)
    (hK : ∀ w', Below w.heap.size w w' → K (a.put o.dst (.int .i64 (addr k i : Nat))) w') :
    if Region.wanted o (yielded ops a.tmps) = true then Oper.wp Try.prog o a w K Q else E := by
  have hw : Region.wanted o (yielded ops a.tmps) = true := by simp [Region.wanted, hgd]
  rw [if_pos hw]
  have hrun : (execOp a.eval o).run Try.prog w = .ok (.enter 22 #[.int .i64 (k : Nat), .int .i64 (i : Nat)]) w := by
    unfold execOp
    simp only [ho]
    have e1 := hs1
    have e2 := hs2
    simp [resolve, Deferred.ofValue, invoke, Try.call22, e1, e2]
    try simp [Act.eval, Try.call22]
  unfold Oper.wp
  rw [hrun, Oper.upon_enter]
  refine (place_any k i hk hi w).mono ?_
  rintro e w' ⟨rfl, hb⟩
  exact hK w' hb

set_option maxHeartbeats 4000000 in
set_option maxRecDepth 100000 in
theorem ralloc_k (base rg : Nat) (v : Value) (L : List (Nat × Nat)) (w : World) (h : RefAt w base rg v L) (n : Int) (h0 : 0 ≤ n) (h1 : n ≤ 128) (k m : Nat) (hk : cl n = k) (hm : m < nb k)
    (hv : ∀ p ∈ L, p.1 < 4 ∧ p.2 < nb p.1) (hin : ∀ j, j < m → (k, j) ∈ L) (hout : (k, m) ∉ L) (hl : L.length < 900) (hbs : base ≤ w.heap.size) :
    Calls Try.prog 12 #[.pointer (some ⟨rg, 0, none⟩), .int .i64 n] w fun e w' => ∃ v', e = .returned (.tuple #[.int .i64 (addr k m : Nat), .int .i64 0]) ∧ RefAt w' base rg v' (L ++ [(k, m)]) ∧ Rb base rg v w v' w' := by
  have hk4 : k < 4 := hk ▸ cl_lt n
  have hn64 := (addr_bd k m hk4 hm).2.2.2.2.2
  have hs128 := (addr_bd k m hk4 hm).2.2.2.2.1
  have hcls := rclass_any n h0 h1
  simp only [hk] at hcls
  have HC := Lib.hid hcls
  have HV := Lib.hid hv
  have HIN := Lib.hid hin
  have HOUT := Lib.hid hout
  clear hv hin hout hcls hk
  go_enter Try.func12, Try.ntmps12
  go_wp2_with fail
  refine (HC.out _).mono ?_
  rintro e w' ⟨rfl, rfl⟩
  have hb0 := Below.refl w.heap.size w
  go_wp2
  go_loopw [10] (fun t wr => ∃ j : Nat, j ≤ m ∧ t = .int .i64 j ∧ RefAt wr base rg v L ∧ Below w.heap.size w wr) (fun t _ => m - (intOf t).toNat)
  case atStart => exact ⟨0, Nat.zero_le _, rfl, h, hb0⟩
  case round =>
    obtain ⟨j, hj, rfl, hR, hB⟩ := hrel
    clear h hb0
    have hjn : j < nb k := by omega
    go_wp2_with fail
    refine (place_any k j hk4 hjn _).mono ?_
    rintro e w1 ⟨rfl, hb1⟩
    have hR1 := hR.below hb1
    have hB1 := bl_then hB hb1
    clear hR hB hb1
    by_cases hjm : j < m
    · obtain ⟨i, hi1, hi2⟩ := first_at (HIN.out j hjm)
      have hno : ∀ (j' : Nat) (q : Nat × Nat), j' < i → L[j']? = some q → addr q.1 q.2 ≠ addr k j := fun j' q hj' hq e => by
        obtain ⟨v1, v2⟩ := HV.out q (List.mem_of_getElem? hq)
        obtain ⟨e1, e2⟩ := addr_inj v1 v2 hk4 hjn e
        exact hi2 j' q hj' hq (by rw [← e1, ← e2])
      have HI := Lib.hid hi1
      clear hi1 hi2
      go_wp2_with fail
      refine (rfind_is base rg v L _ hR1 i (k, j) HI.out hno).mono ?_
      rintro e w' ⟨rfl, rfl⟩
      go_wp2
      go_roundw
      case rel => exact ⟨j + 1, by omega, by go_num, hR1, hB1⟩
      case measure => simp [intOf]; omega
    · obtain rfl : j = m := by omega
      have hno : ∀ q ∈ L, ((addr q.1 q.2 : Nat) : Int) ≠ ((addr k j : Nat) : Int) := fun q hq e => by
        obtain ⟨v1, v2⟩ := HV.out q hq
        obtain ⟨e1, e2⟩ := addr_inj v1 v2 hk4 hjn (by omega)
        exact HOUT.out (by rw [← e1, ← e2]; exact hq)
      go_wp2_with fail
      refine (rfind_no base rg v L _ hR1 _ hno).mono ?_
      rintro e w' ⟨rfl, rfl⟩
      clear hno
      go_wp2
      have hc := hR1.cell
      have hf := hR1.frz
      have hcd : w1.drew.cell? ⟨rg, 0, none⟩ = some v := hc
      have hfd : w1.drew.frozen? ⟨rg, 0, none⟩ = false := hf
      have hrl : rg < w1.heap.size := cell_lt hc
      go_region_law (first
          | (refine step_appB (by rfl) (.tmp 36) (.tmp 43) (by rfl) base v L [(k, j)] (by rfl) (((hR1.below (bl_drewN (Below.refl _ _) 1)).below hb2).below (bl_one _ _)).row ⟨w2.heap.size, 0, none⟩ 1 1 (by rfl) rfl (one_cells _ k j) (by simp; omega) (Nat.le_trans hbs (Nat.le_trans hB1.size (Nat.le_trans hb2.size (bl_one _ _).size))) ?_; intro v' w3 hA; obtain ⟨A4, c4, rfl⟩ := blks_len1 hA.row; have hc3 := appB_cell hA hR1.apart (old_cell (bl_one _ _) (old_cell hb2 (show w1.drew.cell? ⟨rg, 0, none⟩ = some v from hR1.cell))); have hf3 := appB_frz' hA hR1.apart (old_cell hb2 (show w1.drew.cell? ⟨rg, 0, none⟩ = some v from hR1.cell)) (old_frz hb2 (show rg < w1.drew.heap.size from cell_lt hR1.cell) hR1.frz))
          | (refine step_place (by rfl) (.tmp 37) (.tmp 38) (by rfl) k j (by go_simp) (by go_simp) hk4 hjn ?_; intro w2 hb2; have hc2a : ∀ o, (w2.alloc o).cell? ⟨rg, 0, none⟩ = some v := (fun o => old_cell (bl_one _ o) (old_cell hb2 (show w1.drew.cell? ⟨rg, 0, none⟩ = some v from hR1.cell))); have hc2 := (old_cell hb2 (show w1.drew.cell? ⟨rg, 0, none⟩ = some v from hR1.cell))))
      all_goals
       clear hc2a hc2 hc3 hf3
       obtain ⟨hR4, hRb⟩ := ref_next hR1 (by exact bl_then (bl_drewN (Below.refl w1.heap.size w1) 1) (bl_then hb2 (bl_one _ _))) hA (by simp; omega) (Nat.le_trans hbs hB1.size)
       go_wp2_with fail
       refine (place_any k j hk4 hjn _).mono ?_
       rintro e w5 ⟨rfl, hb5⟩
       have hR5 := hR4.below hb5
       go_wp2
       go_ret2
       refine ⟨_, rfl, hR5, ?_, ?_, ?_⟩
       · exact ((hB1.mono hbs).trans hRb.below).trans (hb5.mono (Nat.le_trans hbs (Nat.le_trans hB1.size hRb.below.size)))
       · intro b hb1_ hb2_ hb3_
         rw [hb5.block b (Nat.lt_of_lt_of_le hb1_ (Nat.le_trans hB1.size hRb.below.size)), hRb.block b (Nat.lt_of_lt_of_le hb1_ hB1.size) hb2_ hb3_, hB1.block b hb1_]
       · intro b hb1_
         rcases hRb.own b hb1_ with h' | h'
         · exact Or.inl h'
         · exact Or.inr (Nat.le_trans hB1.size h')

theorem ralloc_any (base rg : Nat) (v : Value) (L : List (Nat × Nat)) (w : World) (h : RefAt w base rg v L) (n : Int) (h0 : 0 ≤ n) (h1 : n ≤ 128) (m : Nat) (hm : m < nb (cl n))
    (hv : ∀ p ∈ L, p.1 < 4 ∧ p.2 < nb p.1) (hin : ∀ j, j < m → (cl n, j) ∈ L) (hout : (cl n, m) ∉ L) (hl : L.length < 900) (hbs : base ≤ w.heap.size) :
    Calls Try.prog 12 #[.pointer (some ⟨rg, 0, none⟩), .int .i64 n] w fun e w' => ∃ v', e = .returned (.tuple #[.int .i64 (addr (cl n) m : Nat), .int .i64 0]) ∧ RefAt w' base rg v' (L ++ [(cl n, m)]) ∧ Rb base rg v w v' w' :=
  ralloc_k base rg v L w h n h0 h1 (cl n) m rfl hm hv hin hout hl hbs

/-- What the reference's calls leave, where nothing but memory of their own is made. -/
theorem rb_below {base rg : Nat} {v : Value} {w w' : World} (hb : Below w.heap.size w w') (hbs : base ≤ w.heap.size) : Rb base rg v w v w' :=
  ⟨hb.mono hbs, fun b h _ _ => hb.block b h, fun b h => Or.inl h⟩

set_option maxHeartbeats 4000000 in
set_option maxRecDepth 100000 in
theorem ralloc_bad (rg : Nat) (w : World) (n : Int) (h : n < 0 ∨ 128 < n) :
    Calls Try.prog 12 #[.pointer (some ⟨rg, 0, none⟩), .int .i64 n] w fun e w' => e = .returned (.tuple #[.int .i64 0, .int .i64 2]) ∧ w = w' := by
  go_enter Try.func12, Try.ntmps12
  go_wp2_with fail
  refine (rclass_bad n h _).mono ?_
  rintro e w' ⟨rfl, rfl⟩
  go_wp2
  go_ret2
  exact ⟨rfl, rfl⟩

set_option maxHeartbeats 4000000 in
set_option maxRecDepth 100000 in
theorem ralloc_full (base rg : Nat) (v : Value) (L : List (Nat × Nat)) (w : World) (h : RefAt w base rg v L) (n : Int) (h0 : 0 ≤ n) (h1 : n ≤ 128)
    (hv : ∀ p ∈ L, p.1 < 4 ∧ p.2 < nb p.1) (hin : ∀ j, j < nb (cl n) → (cl n, j) ∈ L) :
    Calls Try.prog 12 #[.pointer (some ⟨rg, 0, none⟩), .int .i64 n] w fun e w' => e = .returned (.tuple #[.int .i64 0, .int .i64 12]) ∧ Below w.heap.size w w' := by
  have hk4 := cl_lt n
  have hn64 : nb (cl n) ≤ 64 := (addr_bd (cl n) 0 hk4 (nb_pos _)).2.2.2.2.2
  have HV := Lib.hid hv
  have HIN := Lib.hid hin
  clear hv hin
  go_enter Try.func12, Try.ntmps12
  go_wp2_with fail
  refine (rclass_any n h0 h1 _).mono ?_
  rintro e w' ⟨rfl, rfl⟩
  generalize cl n = k at *
  have hb0 := Below.refl w.heap.size w
  go_wp2
  go_loopw [10] (fun t wr => ∃ j : Nat, j ≤ nb k ∧ t = .int .i64 j ∧ RefAt wr base rg v L ∧ Below w.heap.size w wr) (fun t _ => nb k - (intOf t).toNat)
  case atStart => exact ⟨0, Nat.zero_le _, rfl, h, hb0⟩
  case round =>
    obtain ⟨j, hj, rfl, hR, hB⟩ := hrel
    clear h hb0
    by_cases hjn : j < nb k
    · go_wp2_with fail
      refine (place_any k j hk4 hjn _).mono ?_
      rintro e w1 ⟨rfl, hb1⟩
      have hR1 := hR.below hb1
      have hB1 := bl_then hB hb1
      clear hR hB hb1
      obtain ⟨i, hi1, hi2⟩ := first_at (HIN.out j hjn)
      have hno : ∀ (j' : Nat) (q : Nat × Nat), j' < i → L[j']? = some q → addr q.1 q.2 ≠ addr k j := fun j' q hj' hq e => by
        obtain ⟨v1, v2⟩ := HV.out q (List.mem_of_getElem? hq)
        obtain ⟨e1, e2⟩ := addr_inj v1 v2 hk4 hjn e
        exact hi2 j' q hj' hq (by rw [← e1, ← e2])
      have HI := Lib.hid hi1
      clear hi1 hi2
      go_wp2_with fail
      refine (rfind_is base rg v L _ hR1 i (k, j) HI.out hno).mono ?_
      rintro e w' ⟨rfl, rfl⟩
      go_wp2
      go_roundw
      case rel => exact ⟨j + 1, by omega, by go_num, hR1, hB1⟩
      case measure => simp [intOf]; omega
    · go_wp2
      go_ret2
      exact ⟨rfl, hB⟩

theorem ralloc {L L' : List (Nat × Nat)} {u u' : Nat → Nat → Bool} {n x e : Int} (h : AllocTo L u n x e L' u') (hI : Ix L u) (base rg : Nat) (v : Value) (w : World) (hR : RefAt w base rg v L) (hl : L.length < 900) (hbs : base ≤ w.heap.size) :
    Calls Try.prog 12 #[.pointer (some ⟨rg, 0, none⟩), .int .i64 n] w fun r w' => ∃ v', r = .returned (.tuple #[.int .i64 x, .int .i64 e]) ∧ RefAt w' base rg v' L' ∧ Rb base rg v w v' w' := by
  have hv : ∀ p ∈ L, p.1 < 4 ∧ p.2 < nb p.1 := fun p hp => ⟨(hI.inv.valid p hp).1, (hI.inv.valid p hp).2.1⟩
  cases h with
  | bad hb => exact (ralloc_bad rg w n hb).mono fun r w' ⟨h1, h2⟩ => by subst h2; exact ⟨v, h1, hR, rb_below (Below.refl _ _) hbs⟩
  | full h0 h1 hf => exact (ralloc_full base rg v L w hR n h0 h1 hv fun j hj => hI.full _ _ (cl_lt n) hj (hf j hj)).mono fun r w' ⟨h1, h2⟩ => ⟨v, h1, hR.below h2, rb_below h2 hbs⟩
  | one h0 h1 m hm hf ha =>
    exact ralloc_any base rg v L w hR n h0 h1 m hm hv (fun j hj => hI.full _ _ (cl_lt n) (by omega) (ha j hj)) (fun hm' => by have := (hI.inv.valid _ hm').2.2; rw [hf] at this; cases this) hl hbs
end Go.Proofs.Ytefkaikedapokaa
