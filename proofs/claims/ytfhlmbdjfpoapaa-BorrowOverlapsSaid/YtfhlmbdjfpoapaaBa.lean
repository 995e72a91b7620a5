/- BorrowOverlaps: trees as the walks see them: the chain of first kids. The contract of far. -/
import Derived.Test.YtfhlmbdjfpoapaaProg
import Derived.WalkKit
import Derived.Below
import Derived.BigQuiet
import Derived.Deep.QuietTactic
import Derived.KernelRfl
import Derived.Deep.DeepFit
import Derived.Lib.Hide
namespace Go.Proofs.Ytfhlmbdjfpoapaa
open Go.RowKit
set_option linter.unusedSimpArgs false
set_option linter.unusedVariables false

theorem bl_drewN {B : Nat} {a w : World} (h : Below B a w) (n : Nat) : Below B a (w.drewN n) := ⟨h.os, h.tape, h.output, h.size, h.block⟩
theorem bl_set {B : Nat} {a w : World} {g j : Nat} {u : Value} (h : Below B a w) (hp : B ≤ g) : Below B a (w.setCell ⟨g, j, none⟩ u) := h.setCell hp u
theorem bl_alloc {a w : World} (h : Below a.heap.size a w) (o : Obj) : Below a.heap.size a (w.alloc o) := h.alloc h.size o
theorem bl_then {a w1 w2 : World} (h : Below a.heap.size a w1) (k : Below w1.heap.size w1 w2) : Below a.heap.size a w2 := h.trans (k.mono h.size)
theorem cell_lt {w : World} {p : Addr} {v : Value} (h : w.cell? p = some v) : p.block < w.heap.size := World.block_lt_of_cell? w p h
theorem old_cell {w w' : World} (hb : Below w.heap.size w w') {g o : Nat} {v : Value} (h : w.cell? ⟨g, o, none⟩ = some v) : w'.cell? ⟨g, o, none⟩ = some v := (hb.cell (cell_lt h)).trans h
theorem old_frz {w w' : World} (hb : Below w.heap.size w w') {g o : Nat} (hl : g < w.heap.size) (h : w.frozen? ⟨g, o, none⟩ = false) : w'.frozen? ⟨g, o, none⟩ = false := (hb.frozen hl).trans h
theorem bl_one (w : World) (o : Obj) : Below w.heap.size w (w.alloc o) := bl_alloc (Below.refl _ _) o

/-- A tree as it is seen on the way along first kids: its kind, its number, how many kids it has, and its second kid's kind and number. -/
structure Nd where
  kd : Int
  nm : Int
  nk : Nat
  sk : Int
  sn : Int

/-- Ten cells in memory. -/
structure Ten (w : World) (b off : Nat) (c0 c1 c2 c3 c4 c5 c6 c7 c8 c9 : Value) : Prop where
  k0 : w.cell? ⟨b, off, none⟩ = some c0
  k1 : w.cell? ⟨b, off + 1, none⟩ = some c1
  k2 : w.cell? ⟨b, off + 2, none⟩ = some c2
  k3 : w.cell? ⟨b, off + 3, none⟩ = some c3
  k4 : w.cell? ⟨b, off + 4, none⟩ = some c4
  k5 : w.cell? ⟨b, off + 5, none⟩ = some c5
  k6 : w.cell? ⟨b, off + 6, none⟩ = some c6
  k7 : w.cell? ⟨b, off + 7, none⟩ = some c7
  k8 : w.cell? ⟨b, off + 8, none⟩ = some c8
  k9 : w.cell? ⟨b, off + 9, none⟩ = some c9
theorem Ten.below {w w' : World} {b off : Nat} {c0 c1 c2 c3 c4 c5 c6 c7 c8 c9 : Value} (h : Ten w b off c0 c1 c2 c3 c4 c5 c6 c7 c8 c9) (hb : Below w.heap.size w w') : Ten w' b off c0 c1 c2 c3 c4 c5 c6 c7 c8 c9 :=
  ⟨old_cell hb h.k0, old_cell hb h.k1, old_cell hb h.k2, old_cell hb h.k3, old_cell hb h.k4, old_cell hb h.k5, old_cell hb h.k6, old_cell hb h.k7, old_cell hb h.k8, old_cell hb h.k9⟩

/-- The ten cells are a tree with this chain of first kids, its root first. -/
def Spine (w : World) : List Nd → Value → Prop
  | [], _ => False
  | n :: l, v => ∃ (A : Option Addr) (cap : Nat) (a1 : Int) (s3 : ByteArray) (A5 : Option Addr) (n5 k5 : Nat) (a6 : Int) (s7 : ByteArray) (a8 : Int) (A9 : Option Addr) (n9 k9 : Nat), v = .agg #[.int .i64 n.kd, .int .i64 a1, .int .i64 n.nm, .string s3, .slice A n.nk cap, .slice A5 n5 k5, .int .i64 a6, .string s7, .int .i64 a8, .slice A9 n9 k9] ∧
      (n.nk = 0 → l = []) ∧
      (0 < n.nk → ∃ (b off : Nat) (c0 c1 c2 c3 c4 c5 c6 c7 c8 c9 : Value), A = some ⟨b, off, none⟩ ∧ Ten w b off c0 c1 c2 c3 c4 c5 c6 c7 c8 c9 ∧ Spine w l (.agg #[c0, c1, c2, c3, c4, c5, c6, c7, c8, c9]) ∧
        (1 < n.nk → w.cell? ⟨b, off + 10, none⟩ = some (.int .i64 n.sk) ∧ w.cell? ⟨b, off + 12, none⟩ = some (.int .i64 n.sn)))
theorem Spine.below {w w' : World} (hb : Below w.heap.size w w') : ∀ {l : List Nd} {v : Value}, Spine w l v → Spine w' l v
  | [], _, h => h
  | n :: l, v, ⟨A, cap, a1, s3, A5, n5, k5, a6, s7, a8, A9, n9, k9, hv, h0, h1⟩ => by
    refine ⟨A, cap, a1, s3, A5, n5, k5, a6, s7, a8, A9, n9, k9, hv, h0, fun hp => ?_⟩
    obtain ⟨b, off, c0, c1, c2, c3, c4, c5, c6, c7, c8, c9, hA, hT, hS, h2⟩ := h1 hp
    exact ⟨b, off, c0, c1, c2, c3, c4, c5, c6, c7, c8, c9, hA, hT.below hb, Spine.below hb hS, fun h => ⟨old_cell hb (h2 h).1, old_cell hb (h2 h).2⟩⟩

/-- A variable of ten cells, that may be written. -/
structure Bx (w : World) (b : Nat) (y0 y1 y2 y3 y4 y5 y6 y7 y8 y9 : Value) : Prop where
  k0 : w.cell? ⟨b, 0, none⟩ = some y0
  k1 : w.cell? ⟨b, 1, none⟩ = some y1
  k2 : w.cell? ⟨b, 2, none⟩ = some y2
  k3 : w.cell? ⟨b, 3, none⟩ = some y3
  k4 : w.cell? ⟨b, 4, none⟩ = some y4
  k5 : w.cell? ⟨b, 5, none⟩ = some y5
  k6 : w.cell? ⟨b, 6, none⟩ = some y6
  k7 : w.cell? ⟨b, 7, none⟩ = some y7
  k8 : w.cell? ⟨b, 8, none⟩ = some y8
  k9 : w.cell? ⟨b, 9, none⟩ = some y9
  f0 : w.frozen? ⟨b, 0, none⟩ = false
  f1 : w.frozen? ⟨b, 1, none⟩ = false
  f2 : w.frozen? ⟨b, 2, none⟩ = false
  f3 : w.frozen? ⟨b, 3, none⟩ = false
  f4 : w.frozen? ⟨b, 4, none⟩ = false
  f5 : w.frozen? ⟨b, 5, none⟩ = false
  f6 : w.frozen? ⟨b, 6, none⟩ = false
  f7 : w.frozen? ⟨b, 7, none⟩ = false
  f8 : w.frozen? ⟨b, 8, none⟩ = false
  f9 : w.frozen? ⟨b, 9, none⟩ = false
theorem Bx.below {w w' : World} {b : Nat} {y0 y1 y2 y3 y4 y5 y6 y7 y8 y9 : Value} (h : Bx w b y0 y1 y2 y3 y4 y5 y6 y7 y8 y9) (hb : Below w.heap.size w w') : Bx w' b y0 y1 y2 y3 y4 y5 y6 y7 y8 y9 :=
  ⟨old_cell hb h.k0, old_cell hb h.k1, old_cell hb h.k2, old_cell hb h.k3, old_cell hb h.k4, old_cell hb h.k5, old_cell hb h.k6, old_cell hb h.k7, old_cell hb h.k8, old_cell hb h.k9, old_frz hb (cell_lt h.k0) h.f0, old_frz hb (cell_lt h.k1) h.f1, old_frz hb (cell_lt h.k2) h.f2, old_frz hb (cell_lt h.k3) h.f3, old_frz hb (cell_lt h.k4) h.f4, old_frz hb (cell_lt h.k5) h.f5, old_frz hb (cell_lt h.k6) h.f6, old_frz hb (cell_lt h.k7) h.f7, old_frz hb (cell_lt h.k8) h.f8, old_frz hb (cell_lt h.k9) h.f9⟩
theorem Bx.new (w : World) (y0 y1 y2 y3 y4 y5 y6 y7 y8 y9 : Value) : Bx (w.alloc (.cells #[y0, y1, y2, y3, y4, y5, y6, y7, y8, y9] 27)) w.heap.size y0 y1 y2 y3 y4 y5 y6 y7 y8 y9 := ⟨by simp [go_sem], by simp [go_sem], by simp [go_sem], by simp [go_sem], by simp [go_sem], by simp [go_sem], by simp [go_sem], by simp [go_sem], by simp [go_sem], by simp [go_sem], by simp [go_sem], by simp [go_sem], by simp [go_sem], by simp [go_sem], by simp [go_sem], by simp [go_sem], by simp [go_sem], by simp [go_sem], by simp [go_sem], by simp [go_sem]⟩

theorem set_far {w : World} {b j k : Nat} {u v : Value} (h : j ≠ k) (hc : w.cell? ⟨b, k, none⟩ = some v) : (w.setCell ⟨b, j, none⟩ u).cell? ⟨b, k, none⟩ = some v := by
  rw [World.cell?_setCell_other (h := fun e => h (by injection e))]; exact hc
theorem set_here {w : World} {b k : Nat} {u v : Value} (hc : w.cell? ⟨b, k, none⟩ = some v) : (w.setCell ⟨b, k, none⟩ u).cell? ⟨b, k, none⟩ = some u := World.cell?_setCell_same _ _ _ hc
theorem set_frz {w : World} {b j k : Nat} {u : Value} (hc : w.frozen? ⟨b, k, none⟩ = false) : (w.setCell ⟨b, j, none⟩ u).frozen? ⟨b, k, none⟩ = false := by rw [World.frozen?_setCell]; exact hc
/-- All of it is stored anew. -/
theorem Bx.store {w : World} {b : Nat} {y0 y1 y2 y3 y4 y5 y6 y7 y8 y9 : Value} (h : Bx w b y0 y1 y2 y3 y4 y5 y6 y7 y8 y9) (z0 z1 z2 z3 z4 z5 z6 z7 z8 z9 : Value) : Bx ((((((((((w.setCell ⟨b, 0, none⟩ z0).setCell ⟨b, 1, none⟩ z1).setCell ⟨b, 2, none⟩ z2).setCell ⟨b, 3, none⟩ z3).setCell ⟨b, 4, none⟩ z4).setCell ⟨b, 5, none⟩ z5).setCell ⟨b, 6, none⟩ z6).setCell ⟨b, 7, none⟩ z7).setCell ⟨b, 8, none⟩ z8).setCell ⟨b, 9, none⟩ z9) b z0 z1 z2 z3 z4 z5 z6 z7 z8 z9 := by
  obtain ⟨k0, k1, k2, k3, k4, k5, k6, k7, k8, k9, f0, f1, f2, f3, f4, f5, f6, f7, f8, f9⟩ := h
  refine ⟨(set_far (by decide) (set_far (by decide) (set_far (by decide) (set_far (by decide) (set_far (by decide) (set_far (by decide) (set_far (by decide) (set_far (by decide) (set_far (by decide) (set_here k0)))))))))), (set_far (by decide) (set_far (by decide) (set_far (by decide) (set_far (by decide) (set_far (by decide) (set_far (by decide) (set_far (by decide) (set_far (by decide) (set_here (set_far (by decide) k1)))))))))), (set_far (by decide) (set_far (by decide) (set_far (by decide) (set_far (by decide) (set_far (by decide) (set_far (by decide) (set_far (by decide) (set_here (set_far (by decide) (set_far (by decide) k2)))))))))), (set_far (by decide) (set_far (by decide) (set_far (by decide) (set_far (by decide) (set_far (by decide) (set_far (by decide) (set_here (set_far (by decide) (set_far (by decide) (set_far (by decide) k3)))))))))), (set_far (by decide) (set_far (by decide) (set_far (by decide) (set_far (by decide) (set_far (by decide) (set_here (set_far (by decide) (set_far (by decide) (set_far (by decide) (set_far (by decide) k4)))))))))), (set_far (by decide) (set_far (by decide) (set_far (by decide) (set_far (by decide) (set_here (set_far (by decide) (set_far (by decide) (set_far (by decide) (set_far (by decide) (set_far (by decide) k5)))))))))), (set_far (by decide) (set_far (by decide) (set_far (by decide) (set_here (set_far (by decide) (set_far (by decide) (set_far (by decide) (set_far (by decide) (set_far (by decide) (set_far (by decide) k6)))))))))), (set_far (by decide) (set_far (by decide) (set_here (set_far (by decide) (set_far (by decide) (set_far (by decide) (set_far (by decide) (set_far (by decide) (set_far (by decide) (set_far (by decide) k7)))))))))), (set_far (by decide) (set_here (set_far (by decide) (set_far (by decide) (set_far (by decide) (set_far (by decide) (set_far (by decide) (set_far (by decide) (set_far (by decide) (set_far (by decide) k8)))))))))), (set_here (set_far (by decide) (set_far (by decide) (set_far (by decide) (set_far (by decide) (set_far (by decide) (set_far (by decide) (set_far (by decide) (set_far (by decide) (set_far (by decide) k9)))))))))), (set_frz (set_frz (set_frz (set_frz (set_frz (set_frz (set_frz (set_frz (set_frz (set_frz f0)))))))))), (set_frz (set_frz (set_frz (set_frz (set_frz (set_frz (set_frz (set_frz (set_frz (set_frz f1)))))))))), (set_frz (set_frz (set_frz (set_frz (set_frz (set_frz (set_frz (set_frz (set_frz (set_frz f2)))))))))), (set_frz (set_frz (set_frz (set_frz (set_frz (set_frz (set_frz (set_frz (set_frz (set_frz f3)))))))))), (set_frz (set_frz (set_frz (set_frz (set_frz (set_frz (set_frz (set_frz (set_frz (set_frz f4)))))))))), (set_frz (set_frz (set_frz (set_frz (set_frz (set_frz (set_frz (set_frz (set_frz (set_frz f5)))))))))), (set_frz (set_frz (set_frz (set_frz (set_frz (set_frz (set_frz (set_frz (set_frz (set_frz f6)))))))))), (set_frz (set_frz (set_frz (set_frz (set_frz (set_frz (set_frz (set_frz (set_frz (set_frz f7)))))))))), (set_frz (set_frz (set_frz (set_frz (set_frz (set_frz (set_frz (set_frz (set_frz (set_frz f8)))))))))), (set_frz (set_frz (set_frz (set_frz (set_frz (set_frz (set_frz (set_frz (set_frz (set_frz f9))))))))))⟩
theorem bl_store {w w1 : World} {B b : Nat} (h : Below B w w1) (hb : B ≤ b) (z0 z1 z2 z3 z4 z5 z6 z7 z8 z9 : Value) : Below B w ((((((((((w1.setCell ⟨b, 0, none⟩ z0).setCell ⟨b, 1, none⟩ z1).setCell ⟨b, 2, none⟩ z2).setCell ⟨b, 3, none⟩ z3).setCell ⟨b, 4, none⟩ z4).setCell ⟨b, 5, none⟩ z5).setCell ⟨b, 6, none⟩ z6).setCell ⟨b, 7, none⟩ z7).setCell ⟨b, 8, none⟩ z8).setCell ⟨b, 9, none⟩ z9) := (bl_set (bl_set (bl_set (bl_set (bl_set (bl_set (bl_set (bl_set (bl_set (bl_set h hb) hb) hb) hb) hb) hb) hb) hb) hb) hb)
/-- How many first kids stand in one another. -/
def far (l : List Nd) : Nat := min (l.length - 1) 200

theorem agg_ten {a0 a1 a2 a3 a4 a5 a6 a7 a8 a9 y0 y1 y2 y3 y4 y5 y6 y7 y8 y9 : Value} (h : Value.agg #[a0, a1, a2, a3, a4, a5, a6, a7, a8, a9] = .agg #[y0, y1, y2, y3, y4, y5, y6, y7, y8, y9]) : a0 = y0 ∧ a1 = y1 ∧ a2 = y2 ∧ a3 = y3 ∧ a4 = y4 ∧ a5 = y5 ∧ a6 = y6 ∧ a7 = y7 ∧ a8 = y8 ∧ a9 = y9 := by
  injection h with h
  injection h with h
  simpa using h
/-- The chain goes on: the first kid's ten cells, and what is known of them. -/
theorem Spine.kid {w : World} {n : Nd} {l : List Nd} {a1 : Int} {s3 : ByteArray} {A : Option Addr} {cap : Nat} {A5 : Option Addr} {n5 k5 : Nat} {a6 : Int} {s7 : ByteArray} {a8 : Int} {A9 : Option Addr} {n9 k9 : Nat}
    (h : Spine w (n :: l) (.agg #[.int .i64 n.kd, .int .i64 a1, .int .i64 n.nm, .string s3, .slice A n.nk cap, .slice A5 n5 k5, .int .i64 a6, .string s7, .int .i64 a8, .slice A9 n9 k9])) (hk : 0 < n.nk) :
    ∃ (q : Nd) (r : List Nd) (b off : Nat) (b1 : Int) (t3 : ByteArray) (B : Option Addr) (cap' : Nat) (B5 : Option Addr) (m5 j5 : Nat) (b6 : Int) (t7 : ByteArray) (b8 : Int) (B9 : Option Addr) (m9 j9 : Nat), l = q :: r ∧ A = some ⟨b, off, none⟩ ∧
      Ten w b off (.int .i64 q.kd) (.int .i64 b1) (.int .i64 q.nm) (.string t3) (.slice B q.nk cap') (.slice B5 m5 j5) (.int .i64 b6) (.string t7) (.int .i64 b8) (.slice B9 m9 j9) ∧
      Spine w (q :: r) (.agg #[.int .i64 q.kd, .int .i64 b1, .int .i64 q.nm, .string t3, .slice B q.nk cap', .slice B5 m5 j5, .int .i64 b6, .string t7, .int .i64 b8, .slice B9 m9 j9]) ∧
      (1 < n.nk → w.cell? ⟨b, off + 10, none⟩ = some (.int .i64 n.sk) ∧ w.cell? ⟨b, off + 12, none⟩ = some (.int .i64 n.sn)) := by
  obtain ⟨A', cap', a1', s3', A5', n5', k5', a6', s7', a8', A9', n9', k9', hv, h0, h1⟩ := h
  obtain ⟨_, _, _, _, e4, _⟩ := agg_ten hv
  injection e4 with e4 _ _
  subst e4
  obtain ⟨b, off, c0, c1, c2, c3, c4, c5, c6, c7, c8, c9, hA, hT, hS, h2⟩ := h1 hk
  cases l with
  | nil => exact hS.elim
  | cons q r =>
    have hS' := hS
    obtain ⟨B, cb, b1, t3, B5, m5, j5, b6, t7, b8, B9, m9, j9, hv', _, _⟩ := hS'
    obtain ⟨rfl, rfl, rfl, rfl, rfl, rfl, rfl, rfl, rfl, rfl⟩ := agg_ten hv'
    exact ⟨q, r, b, off, b1, t3, B, cb, B5, m5, j5, b6, t7, b8, B9, m9, j9, rfl, hA, hT, hS, h2⟩
theorem Spine.last {w : World} {n : Nd} {l : List Nd} {v : Value} (h : Spine w (n :: l) v) (hk : n.nk = 0) : l = [] := by
  obtain ⟨_, _, _, _, _, _, _, _, _, _, _, _, _, _, h0, _⟩ := h
  exact h0 hk
set_option maxHeartbeats 4000000 in
set_option maxRecDepth 100000 in
theorem far_any (l : List Nd) (v : Value) (w : World) (h : Spine w l v) :
    Calls Try.prog 5 #[v] w fun e w' => e = .returned (.int .i64 (far l : Nat)) ∧ Below w.heap.size w w' := by
  obtain ⟨n, m, rfl⟩ : ∃ n m, l = n :: m := by cases l with | nil => exact h.elim | cons n m => exact ⟨n, m, rfl⟩
  have hS := h
  obtain ⟨A, cap, a1, s3, A5, n5, k5, a6, s7, a8, A9, n9, k9, rfl, hx1, hx2⟩ := h
  clear hx1 hx2
  have HS := Lib.hid hS
  clear hS
  have hB0 := bl_one w (.cells #[.int .i64 n.kd, .int .i64 a1, .int .i64 n.nm, .string s3, .slice A n.nk cap, .slice A5 n5 k5, .int .i64 a6, .string s7, .int .i64 a8, .slice A9 n9 k9] 27)
  have hX0 := Bx.new w (.int .i64 n.kd) (.int .i64 a1) (.int .i64 n.nm) (.string s3) (.slice A n.nk cap) (.slice A5 n5 k5) (.int .i64 a6) (.string s7) (.int .i64 a8) (.slice A9 n9 k9)
  go_enter Try.func5, Try.ntmps5
  go_wp2
  go_loopw [3] (fun s3 wr => ∃ (j : Nat) (q : Nd) (r : List Nd) (a1 : Int) (t3 : ByteArray) (A : Option Addr) (cap : Nat) (A5 : Option Addr) (n5 k5 : Nat) (a6 : Int) (s7 : ByteArray) (a8 : Int) (A9 : Option Addr) (n9 k9 : Nat), j ≤ 200 ∧ s3 = .int .i64 j ∧
    Bx wr w.heap.size (.int .i64 q.kd) (.int .i64 a1) (.int .i64 q.nm) (.string t3) (.slice A q.nk cap) (.slice A5 n5 k5) (.int .i64 a6) (.string s7) (.int .i64 a8) (.slice A9 n9 k9) ∧
    Hid (Spine w (q :: r) (.agg #[.int .i64 q.kd, .int .i64 a1, .int .i64 q.nm, .string t3, .slice A q.nk cap, .slice A5 n5 k5, .int .i64 a6, .string s7, .int .i64 a8, .slice A9 n9 k9])) ∧ Below w.heap.size w wr ∧ Hid (j + r.length = m.length)) (fun s3 _ => 200 - (intOf s3).toNat)
  case atStart => exact ⟨0, n, m, _, _, _, _, _, _, _, _, _, _, _, _, _, by omega, rfl, hX0, HS, hB0, by show 0 + m.length = _; simp⟩
  case round =>
    obtain ⟨j, q, r, a1, t3, A, cap, A5, n5, k5, a6, s7, a8, A9, n9, k9, hj, rfl, hX, HQ, hB, HJ⟩ := hrel
    clear hX0 hB0 HS
    obtain ⟨k0, k1, k2, k3, k4, k5, k6, k7, k8, k9, f0, f1, f2, f3, f4, f5, f6, f7, f8, f9⟩ := hX
    by_cases hk : 0 < q.nk
    · obtain ⟨q', r', b, off, b1, u3, B, cap', B5, m5, j5, b6, t7, b8, B9, m9, j9, hr, rfl, hT, hS, _⟩ := HQ.out.kid hk
      by_cases h200 : j < 200
      · obtain ⟨q0, q1, q2, q3, q4, q5, q6, q7, q8, q9⟩ := hT.below hB
        have HS' := Lib.hid hS
        have HJ' : Hid (j + 1 + r'.length = m.length) := by have := HJ.out; rw [hr] at this; show _ = _; simp at this; omega
        clear hr hS hT HQ HJ
        go_wp2
        go_roundw
        case rel =>
          have hX' := Bx.store (w := wr) (b := w.heap.size) ⟨k0, k1, k2, k3, k4, k5, k6, k7, k8, k9, f0, f1, f2, f3, f4, f5, f6, f7, f8, f9⟩ (.int .i64 q'.kd) (.int .i64 b1) (.int .i64 q'.nm) (.string u3) (.slice B q'.nk cap') (.slice B5 m5 j5) (.int .i64 b6) (.string t7) (.int .i64 b8) (.slice B9 m9 j9)
          exact ⟨j + 1, q', r', b1, u3, B, cap', B5, m5, j5, b6, t7, b8, B9, m9, j9, by omega, by go_num, hX', HS', bl_store hB (Nat.le_refl _) _ _ _ _ _ _ _ _ _ _, HJ'⟩
        case measure => simp [intOf]; omega
      · have hfar : (far (n :: m) : Nat) = j := by have h1 := HJ.out; rw [hr] at h1; unfold far; simp at h1 ⊢; omega
        have HF := Lib.hid hfar
        clear hfar hr hS hT HQ HJ
        go_wp2
        go_ret
        exact ⟨by rw [HF.out]; rfl, hB⟩
    · have hr := HQ.out.last (by omega)
      have hfar : (far (n :: m) : Nat) = j := by have h1 := HJ.out; rw [hr] at h1; unfold far; simp at h1 ⊢; omega
      have HF := Lib.hid hfar
      clear hfar hr HQ HJ
      go_wp2
      go_ret
      exact ⟨by rw [HF.out]; rfl, hB⟩
end Go.Proofs.Ytfhlmbdjfpoapaa
