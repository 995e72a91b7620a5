/- BorrowOverlaps: the plain way along first kids; appends of steps; the contract of borrow.steps. -/
import Derived.Test.YtfhlmbdjfpoapaaBb
import Derived.Deep.DrawnRows
import Derived.Deep.DeepCutAuto
import Derived.Deep.CutBlock
namespace Go.Proofs.Ytfhlmbdjfpoapaa
open Go.RowKit
set_option linter.unusedSimpArgs false
set_option linter.unusedVariables false

def okN (n : Nd) : Prop := (n.kd = 12 ∨ n.kd = 13 ∨ n.kd = 7) ∧ n.nk ≠ 0
instance (n : Nd) : Decidable (okN n) := by unfold okN; infer_instance
/-- The nodes from the outermost to the root, and the root's number. -/
def path : List Nd → Option (List Nd × Int)
  | [] => none
  | n :: l => if n.kd = 4 then some ([], n.nm) else if okN n then (path l).map fun x => (n :: x.1, x.2) else none
def st1 (n : Nd) : Int × Int := if n.kd = 12 then (12, n.nm) else if n.kd = 13 then (if 1 < n.nk ∧ n.sk = 1 then (13, n.sn) else (0, 0)) else (7, 0)
def st2 (n : Nd) : Int × Int := if n.kd = 12 then (1, n.nm) else if n.kd = 13 then (if 1 < n.nk ∧ n.sk = 1 then (2, n.sn) else (3, 0)) else (4, 0)
/-- What both tell of a tree. -/
def SPost (l : List Nd) (f : Nd → Int × Int) (e : Ending) (w' : World) : Prop :=
  (∃ p r vs, path l = some (p, r) ∧ e = .returned (.tuple #[.int .i64 r, vs, .bool true]) ∧ Rd w' vs ((p.map f).reverse)) ∨ (path l = none ∧ ∃ r vs, e = .returned (.tuple #[.int .i64 r, vs, .bool false]))

theorem info34 : (Try.prog.info? 34).map (fun i => (i.zero, i.size, i.bytes)) = some (some (.agg #[.int .i64 0, .int .i64 0]), 2, 16) := by kernel_rfl
theorem info39 : (Try.prog.info? 39).map (fun i => (i.zero, i.size, i.bytes)) = some (some (.agg #[.int .i64 0, .int .i64 0]), 2, 16) := by kernel_rfl

structure AppP (w1 : World) (el : TypeId) (base : Nat) (v : Value) (L M : List (Int × Int)) (v' : Value) (w' : World) : Prop where
  row : Row w' el base v' (L ++ M)
  grown : w1.grownBy w' v.ownBlock
  at_ : v'.ownBlock = v.ownBlock ∨ v'.ownBlock = some w1.heap.size

theorem run_app30 {w : World} {base : Nat} {v : Value} {L M : List (Int × Int)} (hown : Row w 34 base v L) (ty : TypeId) (ad : Addr) (c : Nat) (hn : ∀ j u, (pcells M)[j]? = some u → w.cell? (ad.add j) = some u) (hl : L.length + M.length < 1000000000) (hbase : base ≤ w.heap.size) :
    ∃ v' w', (Builtin.append_ #[30, 30] ty #[v, .slice (some ad) M.length c]).run Try.prog w = .ok v' w' ∧ AppP w 34 base v L M v' w' := by
  obtain ⟨i0, hi, hz0, hz1, hz2⟩ := info_parts info34
  obtain ⟨v', w', h1, h2, h3, _, h5⟩ := run_append_own_at (P := Try.prog) w base 30 ty 34 i0 (.agg #[.int .i64 0, .int .i64 0]) 2 16 Try.underlying30 hi hz0 hz1 hz2 rfl (by decide) v L.length _ hown ad M.length c (pcells M) (pcells_len M)
    hn (fun u hu => by
      obtain ⟨p, _, hp⟩ := List.mem_flatMap.1 hu
      simp only [pcell, List.mem_cons, List.not_mem_nil, or_false] at hp
      rcases hp with rfl | rfl <;> rfl) (by unfold maxLen; omega) (by omega) hbase
  refine ⟨v', w', h1, ?_, h3, h5⟩
  unfold Row
  rw [pcells_app, List.length_append]
  exact h2
theorem wp_app30 {o : Oper} {a : Act} {w : World} {K : Act → World → Prop} {Q : Exit → Act → World → Prop} (s x : Operand) (ho : o.op = .call { callee := .builtin .append, args := #[s, x], argTypes := #[30, 30] })
    (base : Nat) (v : Value) (L M : List (Int × Int)) (hs : a.eval s = v) (hown : Row w 34 base v L) (ad : Addr) (m c : Nat) (hx : a.eval x = .slice (some ad) m c) (hm : m = M.length)
    (hn : ∀ j u, (pcells M)[j]? = some u → w.cell? (ad.add j) = some u) (hl : L.length + M.length < 1000000000) (hbase : base ≤ w.heap.size)
    (hK : ∀ v' w', AppP w 34 base v L M v' w' → K (a.put o.dst v') w') : Oper.wp Try.prog o a w K Q := by
  subst hm
  obtain ⟨v', w', hr, h⟩ := run_app30 hown o.type ad c hn hl hbase
  unfold Oper.wp execOp
  simp only [ho, resolve, invoke, builtin, Sem.run_bind, Sem.run_pure, Result.andThen_ok, List.map_toArray, List.map_cons, List.map_nil, hs, hx, hr]
  exact hK _ _ h
theorem step_app30 {ops : Array Oper} {o : Oper} {a : Act} {w : World} {K : Act → World → Prop} {Q : Exit → Act → World → Prop} {E : Prop} (hgd : o.guard = none) (s x : Operand)
    (ho : o.op = .call { callee := .builtin .append, args := #[s, x], argTypes := #[30, 30] })
    (base : Nat) (v : Value) (L M : List (Int × Int)) (hs : a.eval s = v) (hown : Row w 34 base v L) (ad : Addr) (m c : Nat) (hx : a.eval x = .slice (some ad) m c) (hm : m = M.length)
    (hn : ∀ j u, (pcells M)[j]? = some u → w.cell? (ad.add j) = some u) (hl : L.length + M.length < 1000000000) (hbase : base ≤ w.heap.size)
    (hK : ∀ v' w', AppP w 34 base v L M v' w' → K (a.put o.dst v') w') :
    if Region.wanted o (yielded ops a.tmps) = true then Oper.wp Try.prog o a w K Q else E := by
  have hw : Region.wanted o (yielded ops a.tmps) = true := by simp [Region.wanted, hgd]
  rw [if_pos hw]
  exact wp_app30 s x ho base v L M hs hown ad m c hx hm hn hl hbase hK
theorem run_app35 {w : World} {base : Nat} {v : Value} {L M : List (Int × Int)} (hown : Row w 39 base v L) (ty : TypeId) (ad : Addr) (c : Nat) (hn : ∀ j u, (pcells M)[j]? = some u → w.cell? (ad.add j) = some u) (hl : L.length + M.length < 1000000000) (hbase : base ≤ w.heap.size) :
    ∃ v' w', (Builtin.append_ #[35, 35] ty #[v, .slice (some ad) M.length c]).run Try.prog w = .ok v' w' ∧ AppP w 39 base v L M v' w' := by
  obtain ⟨i0, hi, hz0, hz1, hz2⟩ := info_parts info39
  obtain ⟨v', w', h1, h2, h3, _, h5⟩ := run_append_own_at (P := Try.prog) w base 35 ty 39 i0 (.agg #[.int .i64 0, .int .i64 0]) 2 16 Try.underlying35 hi hz0 hz1 hz2 rfl (by decide) v L.length _ hown ad M.length c (pcells M) (pcells_len M)
    hn (fun u hu => by
      obtain ⟨p, _, hp⟩ := List.mem_flatMap.1 hu
      simp only [pcell, List.mem_cons, List.not_mem_nil, or_false] at hp
      rcases hp with rfl | rfl <;> rfl) (by unfold maxLen; omega) (by omega) hbase
  refine ⟨v', w', h1, ?_, h3, h5⟩
  unfold Row
  rw [pcells_app, List.length_append]
  exact h2
theorem wp_app35 {o : Oper} {a : Act} {w : World} {K : Act → World → Prop} {Q : Exit → Act → World → Prop} (s x : Operand) (ho : o.op = .call { callee := .builtin .append, args := #[s, x], argTypes := #[35, 35] })
    (base : Nat) (v : Value) (L M : List (Int × Int)) (hs : a.eval s = v) (hown : Row w 39 base v L) (ad : Addr) (m c : Nat) (hx : a.eval x = .slice (some ad) m c) (hm : m = M.length)
    (hn : ∀ j u, (pcells M)[j]? = some u → w.cell? (ad.add j) = some u) (hl : L.length + M.length < 1000000000) (hbase : base ≤ w.heap.size)
    (hK : ∀ v' w', AppP w 39 base v L M v' w' → K (a.put o.dst v') w') : Oper.wp Try.prog o a w K Q := by
  subst hm
  obtain ⟨v', w', hr, h⟩ := run_app35 hown o.type ad c hn hl hbase
  unfold Oper.wp execOp
  simp only [ho, resolve, invoke, builtin, Sem.run_bind, Sem.run_pure, Result.andThen_ok, List.map_toArray, List.map_cons, List.map_nil, hs, hx, hr]
  exact hK _ _ h
theorem step_app35 {ops : Array Oper} {o : Oper} {a : Act} {w : World} {K : Act → World → Prop} {Q : Exit → Act → World → Prop} {E : Prop} (hgd : o.guard = none) (s x : Operand)
    (ho : o.op = .call { callee := .builtin .append, args := #[s, x], argTypes := #[35, 35] })
    (base : Nat) (v : Value) (L M : List (Int × Int)) (hs : a.eval s = v) (hown : Row w 39 base v L) (ad : Addr) (m c : Nat) (hx : a.eval x = .slice (some ad) m c) (hm : m = M.length)
    (hn : ∀ j u, (pcells M)[j]? = some u → w.cell? (ad.add j) = some u) (hl : L.length + M.length < 1000000000) (hbase : base ≤ w.heap.size)
    (hK : ∀ v' w', AppP w 39 base v L M v' w' → K (a.put o.dst v') w') :
    if Region.wanted o (yielded ops a.tmps) = true then Oper.wp Try.prog o a w K Q else E := by
  have hw : Region.wanted o (yielded ops a.tmps) = true := by simp [Region.wanted, hgd]
  rw [if_pos hw]
  exact wp_app35 s x ho base v L M hs hown ad m c hx hm hn hl hbase hK
theorem Row.below {w w' : World} {el : TypeId} {base : Nat} {v : Value} {L : List (Int × Int)} (h : Row w el base v L) (hb : Below w.heap.size w w') : Row w' el base v L := by
  obtain ⟨h1, h2⟩ := h
  refine ⟨h1, ?_⟩
  rcases h2 with h2 | ⟨g, cap, cur, hv, hg, hh, r⟩
  · exact Or.inl h2
  · exact Or.inr ⟨g, cap, cur, hv, hg, (hb.block g (Array.getElem?_eq_some_iff.1 hh).1).trans hh, r⟩
theorem Row.own {w : World} {el : TypeId} {base : Nat} {v : Value} {L : List (Int × Int)} (h : Row w el base v L) {b : Nat} (hb : v.ownBlock = some b) : base ≤ b ∧ b < w.heap.size := by
  obtain ⟨_, h2⟩ := h
  rcases h2 with ⟨h2, _⟩ | ⟨g, cap, cur, hv, hg, hh, _⟩
  · rw [h2] at hb; cases hb
  · rw [hv] at hb; injection hb with hb; subst hb
    exact ⟨hg, (Array.getElem?_eq_some_iff.1 hh).1⟩
theorem Row.nil (w : World) (el : TypeId) (base : Nat) : Row w el base (.slice none 0 0) [] := ⟨rfl, Or.inl ⟨rfl, rfl⟩⟩
theorem Row.slice {w : World} {el : TypeId} {base : Nat} {v : Value} {L : List (Int × Int)} (h : Row w el base v L) : ∃ A cap, v = .slice A L.length cap := by
  obtain ⟨_, h2⟩ := h
  rcases h2 with ⟨h2, h3⟩ | ⟨g, cap, cur, hv, _⟩
  · rw [h3]; exact ⟨_, _, h2⟩
  · exact ⟨_, _, hv⟩
def lenOf : Value → Nat
  | .slice _ n _ => n
  | _ => 0
theorem Row.setCell {w : World} {el : TypeId} {base : Nat} {v : Value} {L : List (Int × Int)} (h : Row w el base v L) {b j : Nat} (hb : b < base) (u : Value) : Row (w.setCell ⟨b, j, none⟩ u) el base v L := ownsRow_setCell_below h hb u
theorem path_cons (n : Nd) (l : List Nd) : path (n :: l) = if n.kd = 4 then some ([], n.nm) else if okN n then (path l).map fun x => (n :: x.1, x.2) else none := rfl
theorem path_step {l : List Nd} {P : List Nd} {q : Nd} {r : List Nd} (h : path l = (path (q :: r)).map fun x => (P ++ x.1, x.2)) (h4 : q.kd ≠ 4) (hok : okN q) : path l = (path r).map fun x => ((P ++ [q]) ++ x.1, x.2) := by
  rw [h, path_cons]
  rw [if_neg h4, if_pos hok]
  cases path r with
  | none => rfl
  | some x => simp
theorem path_end {l : List Nd} {P : List Nd} {q : Nd} {r : List Nd} (h : path l = (path (q :: r)).map fun x => (P ++ x.1, x.2)) (h4 : q.kd = 4) : path l = some (P, q.nm) := by
  rw [h, path_cons]
  rw [if_pos h4]
  simp
theorem path_fail {l : List Nd} {P : List Nd} {q : Nd} {r : List Nd} (h : path l = (path (q :: r)).map fun x => (P ++ x.1, x.2)) (h4 : q.kd ≠ 4) (hok : ¬ okN q) : path l = none := by
  rw [h, path_cons]
  rw [if_neg h4, if_neg hok]
  rfl

theorem far_set {w : World} {b b' j k : Nat} {u v : Value} (h : b' ≠ b) (hc : w.cell? ⟨b, k, none⟩ = some v) : (w.setCell ⟨b', j, none⟩ u).cell? ⟨b, k, none⟩ = some v := by
  rw [World.cell?_setCell_other (h := fun e => h (by injection e))]; exact hc
theorem far_frz {w : World} {b b' j k : Nat} {u : Value} (hc : w.frozen? ⟨b, k, none⟩ = false) : (w.setCell ⟨b', j, none⟩ u).frozen? ⟨b, k, none⟩ = false := by rw [World.frozen?_setCell]; exact hc
theorem Bx.far {w : World} {b b' j : Nat} {y0 y1 y2 y3 y4 y5 y6 y7 y8 y9 u : Value} (h : Bx w b y0 y1 y2 y3 y4 y5 y6 y7 y8 y9) (hne : b' ≠ b) : Bx (w.setCell ⟨b', j, none⟩ u) b y0 y1 y2 y3 y4 y5 y6 y7 y8 y9 :=
  ⟨far_set hne h.k0, far_set hne h.k1, far_set hne h.k2, far_set hne h.k3, far_set hne h.k4, far_set hne h.k5, far_set hne h.k6, far_set hne h.k7, far_set hne h.k8, far_set hne h.k9, far_frz h.f0, far_frz h.f1, far_frz h.f2, far_frz h.f3, far_frz h.f4, far_frz h.f5, far_frz h.f6, far_frz h.f7, far_frz h.f8, far_frz h.f9⟩
theorem Bx.at_block {w w' : World} {b : Nat} {y0 y1 y2 y3 y4 y5 y6 y7 y8 y9 : Value} (h : Bx w b y0 y1 y2 y3 y4 y5 y6 y7 y8 y9) (e : w'.heap[b]? = w.heap[b]?) : Bx w' b y0 y1 y2 y3 y4 y5 y6 y7 y8 y9 :=
  ⟨(World.cell?_of_block (w := w) e).trans h.k0, (World.cell?_of_block (w := w) e).trans h.k1, (World.cell?_of_block (w := w) e).trans h.k2, (World.cell?_of_block (w := w) e).trans h.k3, (World.cell?_of_block (w := w) e).trans h.k4, (World.cell?_of_block (w := w) e).trans h.k5, (World.cell?_of_block (w := w) e).trans h.k6, (World.cell?_of_block (w := w) e).trans h.k7, (World.cell?_of_block (w := w) e).trans h.k8, (World.cell?_of_block (w := w) e).trans h.k9, (World.frozen?_of_block (w := w) e).trans h.f0, (World.frozen?_of_block (w := w) e).trans h.f1, (World.frozen?_of_block (w := w) e).trans h.f2, (World.frozen?_of_block (w := w) e).trans h.f3, (World.frozen?_of_block (w := w) e).trans h.f4, (World.frozen?_of_block (w := w) e).trans h.f5, (World.frozen?_of_block (w := w) e).trans h.f6, (World.frozen?_of_block (w := w) e).trans h.f7, (World.frozen?_of_block (w := w) e).trans h.f8, (World.frozen?_of_block (w := w) e).trans h.f9⟩
theorem Ten.at_block {w w' : World} {b off : Nat} {y0 y1 y2 y3 y4 y5 y6 y7 y8 y9 : Value} (h : Ten w b off y0 y1 y2 y3 y4 y5 y6 y7 y8 y9) (e : w'.heap[b]? = w.heap[b]?) : Ten w' b off y0 y1 y2 y3 y4 y5 y6 y7 y8 y9 :=
  ⟨(World.cell?_of_block (w := w) e).trans h.k0, (World.cell?_of_block (w := w) e).trans h.k1, (World.cell?_of_block (w := w) e).trans h.k2, (World.cell?_of_block (w := w) e).trans h.k3, (World.cell?_of_block (w := w) e).trans h.k4, (World.cell?_of_block (w := w) e).trans h.k5, (World.cell?_of_block (w := w) e).trans h.k6, (World.cell?_of_block (w := w) e).trans h.k7, (World.cell?_of_block (w := w) e).trans h.k8, (World.cell?_of_block (w := w) e).trans h.k9⟩
theorem one_cell (w : World) (k n : Int) : ∀ i u, (pcells [(k, n)])[i]? = some u → (w.alloc (.cells #[.int .i64 k, .int .i64 n] 34)).drew.cell? ((⟨w.heap.size, 0, none⟩ : Addr).add i) = some u := by
  intro i u h
  match i, h with
  | 0, h => simp [pcells, pcell] at h; subst h; simp [Addr.add, go_sem]
  | 1, h => simp [pcells, pcell] at h; subst h; simp [Addr.add, go_sem]
  | i + 2, h => simp [pcells, pcell] at h
theorem Row.slice1 {w : World} {el : TypeId} {base : Nat} {v : Value} {P : List Nd} {f : Nd → Int × Int} {p : Int × Int} (h : Row w el base v (P.map f ++ [p])) : ∃ A cap, v = .slice A (P.length + 1) cap := by
  obtain ⟨A, cap, e⟩ := h.slice
  exact ⟨A, cap, by rw [e]; simp⟩
theorem row_store {w : World} {b el base : Nat} {v : Value} {L : List (Int × Int)} (h : Row w el base v L) (hb : b < base) (z0 z1 z2 z3 z4 z5 z6 z7 z8 z9 : Value) : Row ((((((((((w.setCell ⟨b, 0, none⟩ z0).setCell ⟨b, 1, none⟩ z1).setCell ⟨b, 2, none⟩ z2).setCell ⟨b, 3, none⟩ z3).setCell ⟨b, 4, none⟩ z4).setCell ⟨b, 5, none⟩ z5).setCell ⟨b, 6, none⟩ z6).setCell ⟨b, 7, none⟩ z7).setCell ⟨b, 8, none⟩ z8).setCell ⟨b, 9, none⟩ z9) el base v L := ((((((((((h.setCell hb _).setCell hb _).setCell hb _).setCell hb _).setCell hb _).setCell hb _).setCell hb _).setCell hb _).setCell hb _).setCell hb _)
/-- Behind the switch: the step is laid. -/
structure Mid (w0 wx : World) (sx : Nat) (v : Value) (P : List Nd) (k n : Int) (y0 y1 y2 y3 y4 y5 y6 y7 y8 y9 : Value) : Prop where
  box : Bx wx w0.heap.size y0 y1 y2 y3 y4 y5 y6 y7 y8 y9
  s0 : wx.cell? ⟨sx, 0, none⟩ = some (.int .i64 k)
  s1 : wx.cell? ⟨sx, 1, none⟩ = some (.int .i64 n)
  row : Row wx 34 (w0.heap.size + 1) v (P.map st1)
  own : v.ownBlock ≠ some sx
  below : Below w0.heap.size w0 wx
  lt : sx < wx.heap.size
  bs : w0.heap.size < sx
section
variable {w0 wx : World} {sx : Nat} {v : Value} {P : List Nd} {k n : Int} {y0 y1 y2 y3 y4 y5 y6 y7 y8 y9 : Value}
theorem Mid.set0 (h : Mid w0 wx sx v P k n y0 y1 y2 y3 y4 y5 y6 y7 y8 y9) (m : Int) : Mid w0 (wx.setCell ⟨sx, 0, none⟩ (.int .i64 m)) sx v P m n y0 y1 y2 y3 y4 y5 y6 y7 y8 y9 :=
  ⟨h.box.far (by have := h.bs; omega), set_here h.s0, set_far (by decide) h.s1, ownsRow_setCell_other h.row h.own _, h.own, bl_set h.below (by have := h.bs; omega), by simpa [World.setCell] using h.lt, h.bs⟩
theorem Mid.set1 (h : Mid w0 wx sx v P k n y0 y1 y2 y3 y4 y5 y6 y7 y8 y9) (m : Int) : Mid w0 (wx.setCell ⟨sx, 1, none⟩ (.int .i64 m)) sx v P k m y0 y1 y2 y3 y4 y5 y6 y7 y8 y9 :=
  ⟨h.box.far (by have := h.bs; omega), set_far (by decide) h.s0, set_here h.s1, ownsRow_setCell_other h.row h.own _, h.own, bl_set h.below (by have := h.bs; omega), by simpa [World.setCell] using h.lt, h.bs⟩
end
attribute [local go_sem ↓] Go.wp_at_zero Go.wp_at_succ
set_option maxHeartbeats 4000000 in
set_option maxRecDepth 100000 in
theorem steps_any (l : List Nd) (v : Value) (w : World) (h : Spine w l v) (hl : l.length ≤ 1000) :
    Calls Try.prog 7 #[v] w fun e w' => SPost l st1 e w' ∧ Below w.heap.size w w' := by
  obtain ⟨n, m, hlm⟩ : ∃ n m, l = n :: m := by cases l with | nil => exact h.elim | cons n m => exact ⟨n, m, rfl⟩
  have hS : Spine w (n :: m) v := hlm ▸ h
  have hp0 : path l = (path (n :: m)).map fun x => (([] : List Nd) ++ x.1, x.2) := by rw [hlm]; cases path (n :: m) <;> simp
  have hll : ([] : List Nd).length + (n :: m).length = l.length := by rw [hlm]; simp
  obtain ⟨A, cap, a1, s3, A5, n5, k5, a6, s7, a8, A9, n9, k9, rfl, hx1, hx2⟩ := hlm ▸ h
  clear hx1 hx2 h hlm
  have HS := Lib.hid hS
  have HP0 := Lib.hid hp0
  have HLL := Lib.hid hll
  clear hS hp0 hll
  have hB0 := bl_one w (.cells #[.int .i64 n.kd, .int .i64 a1, .int .i64 n.nm, .string s3, .slice A n.nk cap, .slice A5 n5 k5, .int .i64 a6, .string s7, .int .i64 a8, .slice A9 n9 k9] 27)
  have hX0 := Bx.new w (.int .i64 n.kd) (.int .i64 a1) (.int .i64 n.nm) (.string s3) (.slice A n.nk cap) (.slice A5 n5 k5) (.int .i64 a6) (.string s7) (.int .i64 a8) (.slice A9 n9 k9)
  have hR0 := Row.nil (w.alloc (.cells #[.int .i64 n.kd, .int .i64 a1, .int .i64 n.nm, .string s3, .slice A n.nk cap, .slice A5 n5 k5, .int .i64 a6, .string s7, .int .i64 a8, .slice A9 n9 k9] 27)) 34 (w.heap.size + 1)
  go_enter Try.func7, Try.ntmps7
  go_wp2
  go_loopw [3] (fun s3 wr => ∃ (P : List Nd) (q : Nd) (r : List Nd) (a1 : Int) (t3 : ByteArray) (A : Option Addr) (cap : Nat) (A5 : Option Addr) (n5 k5 : Nat) (a6 : Int) (s7 : ByteArray) (a8 : Int) (A9 : Option Addr) (n9 k9 : Nat),
    Bx wr w.heap.size (.int .i64 q.kd) (.int .i64 a1) (.int .i64 q.nm) (.string t3) (.slice A q.nk cap) (.slice A5 n5 k5) (.int .i64 a6) (.string s7) (.int .i64 a8) (.slice A9 n9 k9) ∧
    Hid (Spine w (q :: r) (.agg #[.int .i64 q.kd, .int .i64 a1, .int .i64 q.nm, .string t3, .slice A q.nk cap, .slice A5 n5 k5, .int .i64 a6, .string s7, .int .i64 a8, .slice A9 n9 k9])) ∧ Below w.heap.size w wr ∧
    Hid (path l = (path (q :: r)).map fun x => (P ++ x.1, x.2)) ∧ Hid (P.length + (q :: r).length = l.length) ∧ Row wr 34 (w.heap.size + 1) s3 (P.map st1)) (fun s3 _ => l.length - lenOf s3)
  case atStart => exact ⟨[], n, m, _, _, _, _, _, _, _, _, _, _, _, _, _, hX0, HS, hB0, HP0, HLL, hR0⟩
  case round =>
    obtain ⟨P, q, r, a1, t3, A, cap, A5, n5, k5, a6, s7, a8, A9, n9, k9, hX, HQ, hB, HP, HL, hR⟩ := hrel
    clear hX0 hB0 HS hR0 HP0 HLL
    obtain ⟨A3, cap3, hv3⟩ := hR.slice
    rw [List.length_map] at hv3
    subst hv3
    have hX1 := hX.below (bl_one wr (.cells #[.int .i64 q.kd, .int .i64 0] 34))
    have hB1 := bl_then hB (bl_one wr (.cells #[.int .i64 q.kd, .int .i64 0] 34))
    have hR1 := hR.below (bl_one wr (.cells #[.int .i64 q.kd, .int .i64 0] 34))
    have hs0 : (wr.alloc (.cells #[.int .i64 q.kd, .int .i64 0] 34)).cell? ⟨wr.heap.size, 0, none⟩ = some (.int .i64 q.kd) := by simp [go_sem]
    have hs1 : (wr.alloc (.cells #[.int .i64 q.kd, .int .i64 0] 34)).cell? ⟨wr.heap.size, 1, none⟩ = some (.int .i64 0) := by simp [go_sem]
    have hg0 : (wr.alloc (.cells #[.int .i64 q.kd, .int .i64 0] 34)).frozen? ⟨wr.heap.size, 0, none⟩ = false := by simp [go_sem]
    have hg1 : (wr.alloc (.cells #[.int .i64 q.kd, .int .i64 0] 34)).frozen? ⟨wr.heap.size, 1, none⟩ = false := by simp [go_sem]
    have hsx : w.heap.size < wr.heap.size := cell_lt hX.k0
    have k0 := hX.k0
    have hsxa : wr.heap.size < (wr.alloc (.cells #[.int .i64 q.kd, .int .i64 0] 34)).heap.size := by simp
    have hown : (Value.slice A3 P.length cap3).ownBlock ≠ some wr.heap.size := fun e => by have := (hR.own e).2; omega
    go_upto_region 2 with fail
    clear k0 hX hB hR
    generalize wr.alloc (.cells #[.int .i64 q.kd, .int .i64 0] 34) = wa at *
    generalize wr.heap.size = sx at *
    have hM : Mid w wa sx (.slice A3 P.length cap3) P q.kd 0 (.int .i64 q.kd) (.int .i64 a1) (.int .i64 q.nm) (.string t3) (.slice A q.nk cap) (.slice A5 n5 k5) (.int .i64 a6) (.string s7) (.int .i64 a8) (.slice A9 n9 k9) :=
      ⟨hX1, hs0, hs1, hR1, hown, hB1, hsxa, hsx⟩
    clear hown hsxa
    obtain ⟨k0, k1, k2, k3, k4, k5_, k6, k7, k8, k9_, f0, f1, f2, f3, f4, f5, f6, f7, f8, f9⟩ := hX1
    have hne1 : sx ≠ w.heap.size := by omega
    have hne2 : w.heap.size ≠ sx := by omega
    go_upto_block 2 with fail
    go_cut [3, 5] (fun s3 s5 wx => s3 = .slice A3 P.length cap3 ∧ s5 = .pointer (some ⟨sx, 0, none⟩) ∧ Hid (q.kd = 12 ∨ q.kd = 13 ∨ q.kd = 7) ∧ Mid w wx sx (.slice A3 P.length cap3) P (st1 q).1 (st1 q).2 (.int .i64 q.kd) (.int .i64 a1) (.int .i64 q.nm) (.string t3) (.slice A q.nk cap) (.slice A5 n5 k5) (.int .i64 a6) (.string s7) (.int .i64 a8) (.slice A9 n9 k9))
    case first =>
      by_cases z4 : q.kd = 4
      · have b4 : (q.kd == 4) = true := beq_iff_eq.2 z4
        have HE := Lib.hid (path_end HP.out z4)
        clear z4 HP
        go_wp2_with fail
        refine (reverse_any _ _ _ _ hR1 (by rw [List.length_map]; have := HL.out; simp at this; omega)).mono ?_
        rintro e w3 ⟨rfl, hrd, hgr⟩
        have hk2 : w3.cell? ⟨w.heap.size, 2, none⟩ = some (.int .i64 q.nm) := (World.cell?_of_block (w := wa) (hgr.block w.heap.size (cell_lt k2) (fun e => by have := (hR1.own e.symm).1; omega))).trans k2
        have hB3 : Below w.heap.size w w3 := hB1.grown hgr hB1.size fun b hb => by have := (hR1.own hb).1; omega
        have HRD := Lib.hid hrd
        clear hrd hgr hR1
        go_wp2
        go_ret3
        exact ⟨Or.inl ⟨P, q.nm, _, HE.out, rfl, HRD.out⟩, hB3⟩
      · have b4 : (q.kd == 4) = false := beq_eq_false_iff_ne.2 z4
        by_cases z12 : q.kd = 12
        · have b12 : (q.kd == 12) = true := beq_iff_eq.2 z12
          have hM' := hM.set1 q.nm
          have hst : st1 q = (12, q.nm) := by unfold st1; rw [if_pos z12]
          have hM2 : Mid w (wa.setCell ⟨sx, 1, none⟩ (.int .i64 q.nm)) sx (.slice A3 P.length cap3) P (st1 q).1 (st1 q).2 (.int .i64 q.kd) (.int .i64 a1) (.int .i64 q.nm) (.string t3) (.slice A q.nk cap) (.slice A5 n5 k5) (.int .i64 a6) (.string s7) (.int .i64 a8) (.slice A9 n9 k9) := by rw [hst, ← z12]; exact hM'
          have hor : Hid (q.kd = 12 ∨ q.kd = 13 ∨ q.kd = 7) := Lib.hid (Or.inl z12)
          clear z12 z4 hst hM'
          go_wp2_with fail
          go_meet
          case rel => exact ⟨rfl, rfl, hor, hM2⟩
        · have b12 : (q.kd == 12) = false := beq_eq_false_iff_ne.2 z12
          by_cases z13 : q.kd = 13
          · have b13 : (q.kd == 13) = true := beq_iff_eq.2 z13
            have hor : Hid (q.kd = 12 ∨ q.kd = 13 ∨ q.kd = 7) := Lib.hid (Or.inr (Or.inl z13))
            have hM' := hM.set0 0
            by_cases hk : 1 < q.nk
            · obtain ⟨q', r', b, off, b1, u3, B, cap', B5, m5, j5, b6, t7, b8, B9, m9, j9, hr_, hA_, hT_, hS_, hsec⟩ := HQ.out.kid (show 0 < q.nk by omega)
              subst hA_
              obtain ⟨h10, h12⟩ := hsec hk
              have hbl : b < w.heap.size := cell_lt h10
              have h10 := (hB1.cell (p := ⟨b, off + 10, none⟩) hbl).trans h10
              have h12 := (hB1.cell (p := ⟨b, off + 12, none⟩) hbl).trans h12
              have hne3 : sx ≠ b := by omega
              have hne4 : b ≠ sx := by omega
              have i0 : (1 : Int) < (q.nk : Int) := by omega
              clear hr_ hT_ hS_ hsec
              by_cases hs : q.sk = 1
              · have bs : (q.sk == 1) = true := beq_iff_eq.2 hs
                have hst : st1 q = (13, q.sn) := by unfold st1; rw [if_neg z12, if_pos z13, if_pos ⟨hk, hs⟩]
                have hM2 := (hM'.set0 13).set1 q.sn
                have hM3 : Hid ((st1 q).1 = 13 ∧ (st1 q).2 = q.sn) := Lib.hid (by rw [hst]; exact ⟨rfl, rfl⟩)
                clear hst hs z12 z13 z4 hM'
                go_wp2_with fail
                go_meet
                case rel => exact ⟨rfl, rfl, hor, by rw [hM3.out.1, hM3.out.2]; exact hM2⟩
              · have bs : (q.sk == 1) = false := beq_eq_false_iff_ne.2 hs
                have hst : st1 q = (0, 0) := by unfold st1; rw [if_neg z12, if_pos z13, if_neg (fun h => hs h.2)]
                have hM3 : Hid ((st1 q).1 = 0 ∧ (st1 q).2 = 0) := Lib.hid (by rw [hst]; exact ⟨rfl, rfl⟩)
                clear hst hs z12 z13 z4
                go_wp2_with fail
                go_meet
                case rel => exact ⟨rfl, rfl, hor, by rw [hM3.out.1, hM3.out.2]; exact hM'⟩
            · have i0 : decide (1 < q.nk) = false := decide_eq_false hk
              have hst : st1 q = (0, 0) := by unfold st1; rw [if_neg z12, if_pos z13, if_neg (fun h => hk h.1)]
              have hM3 : Hid ((st1 q).1 = 0 ∧ (st1 q).2 = 0) := Lib.hid (by rw [hst]; exact ⟨rfl, rfl⟩)
              have i1 : ¬ (1 : Int) < (q.nk : Int) := by omega
              clear hst z12 z13 z4 hk
              go_wp2_with fail
              go_meet
              case rel => exact ⟨rfl, rfl, hor, by rw [hM3.out.1, hM3.out.2]; exact hM'⟩
          · have b13 : (q.kd == 13) = false := beq_eq_false_iff_ne.2 z13
            by_cases z7 : q.kd = 7
            · have b7 : (q.kd == 7) = true := beq_iff_eq.2 z7
              have hst : st1 q = (7, 0) := by unfold st1; rw [if_neg z12, if_neg z13]
              have hM2 : Mid w wa sx (.slice A3 P.length cap3) P (st1 q).1 (st1 q).2 (.int .i64 q.kd) (.int .i64 a1) (.int .i64 q.nm) (.string t3) (.slice A q.nk cap) (.slice A5 n5 k5) (.int .i64 a6) (.string s7) (.int .i64 a8) (.slice A9 n9 k9) := by rw [hst, ← z7]; exact hM
              have hor : Hid (q.kd = 12 ∨ q.kd = 13 ∨ q.kd = 7) := Lib.hid (Or.inr (Or.inr z7))
              clear hst z12 z13 z4 z7
              go_wp2_with fail
              go_meet
              case rel => exact ⟨rfl, rfl, hor, hM2⟩
            · have b7 : (q.kd == 7) = false := beq_eq_false_iff_ne.2 z7
              have hno := path_fail HP.out z4 (fun h => h.1.elim z12 (fun h => h.elim z13 z7))
              have HNO := Lib.hid hno
              clear hno z12 z13 z4 z7
              go_wp2
              go_ret3
              exact ⟨Or.inr ⟨HNO.out, _, _, rfl⟩, hB1⟩
    case rest =>
      obtain ⟨rfl, rfl, hor, hM⟩ := hcut
      clear k0 k1 k2 k3 k4 k5_ k6 k7 k8 k9_ f0 f1 f2 f3 f4 f5 f6 f7 f8 f9 hne1 hne2 hs0 hs1 hg0 hg1 hB1 hR1
      have hz4 : q.kd ≠ 4 := by have := hor.out; omega
      by_cases hk : 0 < q.nk
      · obtain ⟨q', r', b, off, b1, u3, B, cap', B5, m5, j5, b6, t7, b8, B9, m9, j9, hr_, rfl, hT, hS, _⟩ := HQ.out.kid hk
        have hpath := path_step HP.out hz4 ⟨hor.out, by omega⟩
        rw [hr_] at hpath
        have HP2 := Lib.hid hpath
        have HL2 : Hid ((P ++ [q]).length + (q' :: r').length = l.length) := by have := HL.out; rw [hr_] at this; show _ = _; simp at this ⊢; omega
        have hPl : P.length + 1 ≤ l.length := by have := HL.out; simp at this; omega
        have HS2 := Lib.hid hS
        have HZ4 := Lib.hid hz4
        have hd0 : (q.nk == 0) = false := beq_eq_false_iff_ne.2 (by omega)
        have hd1 : ((q.nk : Int) == 0) = false := beq_eq_false_iff_ne.2 (by omega)
        have hbl : b < w.heap.size := cell_lt hT.k0
        have hT1 := hT.below hM.below
        clear hr_ hpath hS hT hz4 HP HL HQ
        have hX := hM.box
        have s0 := hM.s0
        have s1 := hM.s1
        have k4 := hX.k4
        have hTT := hT1
        obtain ⟨q0, q1, q2, q3, q4, q5, q6, q7, q8, q9⟩ := hTT
        go_upto_region 16 with fail
        have ha4 : ∀ o, (wc.alloc o).cell? ⟨w.heap.size, 4, none⟩ = some (.slice (some ⟨b, off, none⟩) q.nk cap) := fun o => old_cell (bl_one _ o) k4
        have aq0 := fun o => old_cell (bl_one wc o) q0
        have aq1 := fun o => old_cell (bl_one wc o) q1
        have aq2 := fun o => old_cell (bl_one wc o) q2
        have aq3 := fun o => old_cell (bl_one wc o) q3
        have aq4 := fun o => old_cell (bl_one wc o) q4
        have aq5 := fun o => old_cell (bl_one wc o) q5
        have aq6 := fun o => old_cell (bl_one wc o) q6
        have aq7 := fun o => old_cell (bl_one wc o) q7
        have aq8 := fun o => old_cell (bl_one wc o) q8
        have aq9 := fun o => old_cell (bl_one wc o) q9
        have hown1 : (Value.slice A3 P.length cap3).ownBlock ≠ some w.heap.size := fun e => by have := (hM.row.own e).1; omega
        have hown2 : (Value.slice A3 P.length cap3).ownBlock ≠ some b := fun e => by have := (hM.row.own e).1; omega
        have hbx : w.heap.size < wc.heap.size := cell_lt k4
        have i0 : (0 : Int) < (q.nk : Int) := by omega
        go_region_law (first
          | (refine step_app30 (by rfl) (.tmp 50) (.tmp 52) (by rfl) (w.heap.size + 1) _ (P.map st1) [((st1 q).1, (st1 q).2)] (by rfl) (hM.row.below (bl_drewN (bl_one _ _) 1)) ⟨wc.heap.size, 0, none⟩ 1 1 (by rfl) rfl (one_cell _ _ _) (by simp; omega) (Nat.le_trans (by omega) (bl_drewN (bl_one _ _) 1).size) ?_; intro v' w3 hA; obtain ⟨A', c', rfl⟩ := hA.row.slice1; have e3 : ∀ c, c < wc.heap.size → (Value.slice A3 P.length cap3).ownBlock ≠ some c → w3.heap[c]? = wc.heap[c]? := fun c hc hn => (hA.grown.block c (Nat.lt_of_lt_of_le hc (bl_drewN (bl_one wc _) 1).size) (fun e => hn e.symm)).trans ((bl_drewN (bl_one wc _) 1).block c hc); have hX3 := hX.at_block (e3 w.heap.size hbx hown1); have hT3 := hT1.at_block (e3 b (by omega) hown2); obtain ⟨x0, x1, x2, x3, x4, x5, x6, x7, x8, x9, g0, g1, g2, g3, g4, g5, g6, g7, g8, g9⟩ := hX3; obtain ⟨p0, p1, p2, p3, p4, p5, p6, p7, p8, p9⟩ := hT3))
        all_goals
          have hX4 := Bx.store (w := w3) (b := w.heap.size) ⟨x0, x1, x2, x3, x4, x5, x6, x7, x8, x9, g0, g1, g2, g3, g4, g5, g6, g7, g8, g9⟩ (.int .i64 q'.kd) (.int .i64 b1) (.int .i64 q'.nm) (.string u3) (.slice B q'.nk cap') (.slice B5 m5 j5) (.int .i64 b6) (.string t7) (.int .i64 b8) (.slice B9 m9 j9)
          have hB4 : Below w.heap.size w w3 := (hM.below.trans ((bl_drewN (bl_one wc _) 1).mono hM.below.size)).grown hA.grown (Nat.le_trans hM.below.size (bl_drewN (bl_one wc _) 1).size) fun c hc => by have := (hM.row.own hc).1; omega
          have hR4 : Row w3 34 (w.heap.size + 1) (.slice A' (P.length + 1) c') ((P ++ [q]).map st1) := by rw [List.map_append]; exact hA.row
          have hB5 := bl_store hB4 (Nat.le_refl _) (.int .i64 q'.kd) (.int .i64 b1) (.int .i64 q'.nm) (.string u3) (.slice B q'.nk cap') (.slice B5 m5 j5) (.int .i64 b6) (.string t7) (.int .i64 b8) (.slice B9 m9 j9)
          have hR5 := row_store hR4 (Nat.lt_succ_self w.heap.size) (.int .i64 q'.kd) (.int .i64 b1) (.int .i64 q'.nm) (.string u3) (.slice B q'.nk cap') (.slice B5 m5 j5) (.int .i64 b6) (.string t7) (.int .i64 b8) (.slice B9 m9 j9)
          go_wp2
          go_roundw
          case rel => exact ⟨P ++ [q], q', r', b1, u3, B, cap', B5, m5, j5, b6, t7, b8, B9, m9, j9, hX4, HS2, hB5, HP2, HL2, hR5⟩
          case measure => simp [lenOf]; omega
      · have hno := path_fail HP.out hz4 (fun h => h.2 (by omega))
        have HNO := Lib.hid hno
        have hd0 : (q.nk == 0) = true := beq_iff_eq.2 (by omega)
        have hd1 : ((q.nk : Int) == 0) = true := beq_iff_eq.2 (by omega)
        have k4 := hM.box.k4
        have hBM := hM.below
        clear hno hz4 hM
        go_wp2
        go_ret3
        exact ⟨Or.inr ⟨HNO.out, _, _, rfl⟩, hBM⟩
end Go.Proofs.Ytfhlmbdjfpoapaa
