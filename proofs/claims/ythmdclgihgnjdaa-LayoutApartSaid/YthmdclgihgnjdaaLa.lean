/- LayoutApart: a function in the middle form as the walks see it; the contract of fold.places. -/
import Derived.Test.YthmdclgihgnjdaaProg
import Derived.WalkKit
import Derived.Below
import Derived.BigQuiet
import Derived.Deep.QuietTactic
import Derived.KernelRfl
import Derived.Deep.DeepFit
import Derived.Lib.Hide
import Derived.RegionTactic
import Derived.ChangeAlike
import Derived.WalkLawsBesides
import Derived.Deep.DeepCutAuto
import Derived.Deep.CutBlock
namespace Go.Proofs.Ythmdclgihgnjdaa
open Go.RowKit
set_option linter.unusedSimpArgs false
set_option linter.unusedVariables false

theorem bl_drewN {B : Nat} {a w : World} (h : Below B a w) (n : Nat) : Below B a (w.drewN n) := ⟨h.os, h.tape, h.output, h.size, h.block⟩
theorem bl_drew {B : Nat} {a w : World} (h : Below B a w) : Below B a w.drew := bl_drewN h 1
theorem bl_set {B : Nat} {a w : World} {g j : Nat} {u : Value} (h : Below B a w) (hp : B ≤ g) : Below B a (w.setCell ⟨g, j, none⟩ u) := h.setCell hp u
theorem bl_alloc {a w : World} (h : Below a.heap.size a w) (o : Obj) : Below a.heap.size a (w.alloc o) := h.alloc h.size o
theorem bl_then {a w1 w2 : World} (h : Below a.heap.size a w1) (k : Below w1.heap.size w1 w2) : Below a.heap.size a w2 := h.trans (k.mono h.size)
theorem cell_lt {w : World} {p : Addr} {v : Value} (h : w.cell? p = some v) : p.block < w.heap.size := World.block_lt_of_cell? w p h
theorem old_cell {w w' : World} (hb : Below w.heap.size w w') {g o : Nat} {v : Value} (h : w.cell? ⟨g, o, none⟩ = some v) : w'.cell? ⟨g, o, none⟩ = some v := (hb.cell (cell_lt h)).trans h
theorem old_frz {w w' : World} (hb : Below w.heap.size w w') {g o : Nat} (hl : g < w.heap.size) (h : w.frozen? ⟨g, o, none⟩ = false) : w'.frozen? ⟨g, o, none⟩ = false := (hb.frozen hl).trans h
theorem bl_one (w : World) (o : Obj) : Below w.heap.size w (w.alloc o) := bl_alloc (Below.refl _ _) o

/-- A place in memory: its local, its steps, and the first step's kind. -/
def Pl (w : World) (b off : Nat) : Prop := ∃ (lc : Int) (S : Option Addr) (m c : Nat), w.cell? ⟨b, off, none⟩ = some (.int .i64 lc) ∧ w.cell? ⟨b, off + 1, none⟩ = some (.slice S m c) ∧ (0 < m → ∃ b' o' k, S = some ⟨b', o', none⟩ ∧ w.cell? ⟨b', o', none⟩ = some (.int .i64 k))
/-- An instruction in memory. -/
def Ins (w : World) (b off : Nat) : Prop := (∃ op : Int, w.cell? ⟨b, off, none⟩ = some (.int .i64 op)) ∧ Pl w b (off + 6) ∧ Pl w b (off + 8)
/-- A block in memory. -/
def Bk (w : World) (b off : Nat) : Prop := ∃ (C : Option Addr) (m c : Nat), w.cell? ⟨b, off, none⟩ = some (.slice C m c) ∧ m ≤ 9223372036854775807 ∧ ∀ i, i < m → ∃ b' o', C = some ⟨b', o', none⟩ ∧ Ins w b' (o' + i * 18)
def Bks (w : World) (B : Option Addr) (n : Nat) : Prop := ∀ i, i < n → ∃ b' o', B = some ⟨b', o', none⟩ ∧ Bk w b' (o' + i * 7)
/-- The locals. -/
def Ls (w : World) (A : Option Addr) (n : Nat) (z : Nat → Int) : Prop := ∀ i, i < n → ∃ b o, A = some ⟨b, o, none⟩ ∧ w.cell? ⟨b, o + i, none⟩ = some (.int .i64 (z i))
theorem Pl.below {w w' : World} {b off : Nat} (h : Pl w b off) (hb : Below w.heap.size w w') : Pl w' b off := by
  obtain ⟨lc, S, m, c, h1, h2, h3⟩ := h
  exact ⟨lc, S, m, c, old_cell hb h1, old_cell hb h2, fun hm => by obtain ⟨b', o', k, e, hk⟩ := h3 hm; exact ⟨b', o', k, e, old_cell hb hk⟩⟩
theorem Ins.below {w w' : World} {b off : Nat} (h : Ins w b off) (hb : Below w.heap.size w w') : Ins w' b off := by
  obtain ⟨⟨op, h1⟩, h2, h3⟩ := h
  exact ⟨⟨op, old_cell hb h1⟩, h2.below hb, h3.below hb⟩
theorem Bk.below {w w' : World} {b off : Nat} (h : Bk w b off) (hb : Below w.heap.size w w') : Bk w' b off := by
  obtain ⟨C, m, c, h1, hm, h2⟩ := h
  exact ⟨C, m, c, old_cell hb h1, hm, fun i hi => by obtain ⟨b', o', e, h⟩ := h2 i hi; exact ⟨b', o', e, h.below hb⟩⟩
theorem Bks.below {w w' : World} {B : Option Addr} {n : Nat} (h : Bks w B n) (hb : Below w.heap.size w w') : Bks w' B n := fun i hi => by
  obtain ⟨b', o', e, h⟩ := h i hi; exact ⟨b', o', e, h.below hb⟩
theorem Ls.below {w w' : World} {A : Option Addr} {n : Nat} {z : Nat → Int} (h : Ls w A n z) (hb : Below w.heap.size w w') : Ls w' A n z := fun i hi => by
  obtain ⟨b', o', e, h⟩ := h i hi; exact ⟨b', o', e, old_cell hb h⟩

/-- What places tells: a slice of pointers to places, in a block of its own. -/
def Ptrs (w0 : World) (lo : Nat) (w : World) (v : Value) : Prop := ∃ (A : Option Addr) (m c : Nat), v = .slice A m c ∧ m ≤ 2 ∧ ∀ i, i < m → ∃ g b' o', A = some ⟨g, 0, none⟩ ∧ lo ≤ g ∧ w.cell? ⟨g, i, none⟩ = some (.pointer (some ⟨b', o', none⟩)) ∧ Pl w0 b' o'
theorem ptr_nil (w0 : World) (lo : Nat) (w : World) : Ptrs w0 lo w (.slice none 0 0) := ⟨none, 0, 0, rfl, by omega, fun i hi => absurd hi (Nat.not_lt_zero _)⟩
theorem ptr_one {w0 : World} (w : World) {b o : Nat} (h : Pl w0 b o) : Ptrs w0 w.heap.size (w.alloc (.cells #[.pointer (some ⟨b, o, none⟩)] 56)) (.slice (some ⟨w.heap.size, 0, none⟩) 1 1) := by
  refine ⟨_, 1, 1, rfl, by omega, fun i hi => ?_⟩
  obtain rfl : i = 0 := by omega
  exact ⟨w.heap.size, b, o, rfl, Nat.le_refl _, by simp [go_sem], h⟩
theorem ptr_two {w0 : World} (w : World) {b o b' o' : Nat} (h : Pl w0 b o) (h' : Pl w0 b' o') : Ptrs w0 w.heap.size (w.alloc (.cells #[.pointer (some ⟨b, o, none⟩), .pointer (some ⟨b', o', none⟩)] 56)) (.slice (some ⟨w.heap.size, 0, none⟩) 2 2) := by
  refine ⟨_, 2, 2, rfl, by omega, fun i hi => ?_⟩
  match i, hi with
  | 0, _ => exact ⟨w.heap.size, b, o, rfl, Nat.le_refl _, by simp [go_sem], h⟩
  | 1, _ => exact ⟨w.heap.size, b', o', rfl, Nat.le_refl _, by simp [go_sem], h'⟩

set_option maxHeartbeats 4000000 in
set_option maxRecDepth 100000 in
theorem places_any (w0 : World) (b off : Nat) (w : World) (h0 : Ins w0 b off) (hb0 : Below w0.heap.size w0 w) :
    Calls Try.prog 9 #[.pointer (some ⟨b, off, none⟩)] w fun e w' => ∃ v, e = .returned v ∧ Ptrs w0 w.heap.size w' v ∧ Below w.heap.size w w' := by
  obtain ⟨⟨op, hop⟩, hP, hQ⟩ := h0
  have hop := old_cell hb0 hop
  have HP := Lib.hid hP
  have HQ := Lib.hid hQ
  clear hP hQ
  by_cases e3 : op = 3
  · have b3 : (op == 3) = true := beq_iff_eq.2 e3
    have b4 : (op == 4) = false := beq_eq_false_iff_ne.2 (by omega)
    have b6 : (op == 6) = false := beq_eq_false_iff_ne.2 (by omega)
    have b9 : (op == 9) = false := beq_eq_false_iff_ne.2 (by omega)
    have b5 : (op == 5) = false := beq_eq_false_iff_ne.2 (by omega)
    clear e3
    go_enter Try.func9, Try.ntmps9
    go_wp2
    go_ret
    exact ⟨_, rfl, ptr_one w HP.out, bl_one _ _⟩
  have b3 : (op == 3) = false := beq_eq_false_iff_ne.2 e3
  by_cases e4 : op = 4
  · have b4 : (op == 4) = true := beq_iff_eq.2 e4
    have b6 : (op == 6) = false := beq_eq_false_iff_ne.2 (by omega)
    have b9 : (op == 9) = false := beq_eq_false_iff_ne.2 (by omega)
    have b5 : (op == 5) = false := beq_eq_false_iff_ne.2 (by omega)
    clear e4
    go_enter Try.func9, Try.ntmps9
    go_wp2
    go_ret
    exact ⟨_, rfl, ptr_one w HP.out, bl_one _ _⟩
  have b4 : (op == 4) = false := beq_eq_false_iff_ne.2 e4
  by_cases e6 : op = 6
  · have b6 : (op == 6) = true := beq_iff_eq.2 e6
    have b9 : (op == 9) = false := beq_eq_false_iff_ne.2 (by omega)
    have b5 : (op == 5) = false := beq_eq_false_iff_ne.2 (by omega)
    clear e6
    go_enter Try.func9, Try.ntmps9
    go_wp2
    go_ret
    exact ⟨_, rfl, ptr_one w HP.out, bl_one _ _⟩
  have b6 : (op == 6) = false := beq_eq_false_iff_ne.2 e6
  by_cases e9 : op = 9
  · have b9 : (op == 9) = true := beq_iff_eq.2 e9
    have b5 : (op == 5) = false := beq_eq_false_iff_ne.2 (by omega)
    clear e9
    go_enter Try.func9, Try.ntmps9
    go_wp2
    go_ret
    exact ⟨_, rfl, ptr_one w HP.out, bl_one _ _⟩
  have b9 : (op == 9) = false := beq_eq_false_iff_ne.2 e9
  by_cases e5 : op = 5
  · have b5 : (op == 5) = true := beq_iff_eq.2 e5
    clear e5
    go_enter Try.func9, Try.ntmps9
    go_wp2
    go_region
    all_goals
      go_wp2
      go_ret
      exact ⟨_, rfl, ptr_two w HP.out HQ.out, bl_drew (bl_one _ _)⟩
  have b5 : (op == 5) = false := beq_eq_false_iff_ne.2 e5
  clear e3 e4 e6 e9 e5
  go_enter Try.func9, Try.ntmps9
  go_wp2
  go_ret
  exact ⟨_, rfl, ptr_nil _ _ _, Below.refl _ _⟩
end Go.Proofs.Ythmdclgihgnjdaa
