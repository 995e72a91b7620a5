/- Contract of package heap: New. -/
import Derived.Test.YtefkaikedapokaaHf
namespace Go.Proofs.Ytefkaikedapokaa
open Go.RowKit
set_option linter.unusedSimpArgs false
set_option linter.unusedVariables false
attribute [local go_sem] ix0 ix1 ix2 ix3 fb0 fb1 fb2 fb3 fs0 fs1 fs2 fs3

/-- n bools that are false. -/
def zb (n : Nat) : Array Value := madeCells #[.bool false] n
theorem zb_get (n i : Nat) (h : i < n) : (zb n)[i]? = some (.bool false) := by
  unfold zb madeCells
  simp [h, Nat.mod_one]
theorem info4 : (Try.prog.info? 4).map (fun i => (i.zero, i.size, i.bytes)) = some (some (.bool false), 1, 1) := by kernel_rfl
theorem mk_any (n : Nat) (h : n ≤ 64) (w : World) : (Instr.makeSlice 47 (.int .i64 (n : Int)) (.int .i64 (n : Int))).run Try.prog w = .ok (.slice (some ⟨w.heap.size, 0, none⟩) n n) (w.alloc (.cells (zb n) 4)) := by
  obtain ⟨i0, hi, hz0, hz1, hz2⟩ := info_parts info4
  have H := run_make (P := Try.prog) w 47 4 i0 (.bool false) Try.underlying47 hi hz0 .i64 .i64 (n : Int) (n : Int) (by omega) (by omega) (by rw [hz2]; omega) (by omega)
  rw [H, hz1]
  simp [Value.cells, zb]
theorem mk0 (w : World) : (Instr.makeSlice 47 (.int .i64 64) (.int .i64 64)).run Try.prog w = .ok (.slice (some ⟨w.heap.size, 0, none⟩) 64 64) (w.alloc (.cells (zb 64) 4)) := mk_any 64 (by omega) w
theorem mk1 (w : World) : (Instr.makeSlice 47 (.int .i64 32) (.int .i64 32)).run Try.prog w = .ok (.slice (some ⟨w.heap.size, 0, none⟩) 32 32) (w.alloc (.cells (zb 32) 4)) := mk_any 32 (by omega) w
theorem mk2 (w : World) : (Instr.makeSlice 47 (.int .i64 16) (.int .i64 16)).run Try.prog w = .ok (.slice (some ⟨w.heap.size, 0, none⟩) 16 16) (w.alloc (.cells (zb 16) 4)) := mk_any 16 (by omega) w
theorem mk3 (w : World) : (Instr.makeSlice 47 (.int .i64 8) (.int .i64 8)).run Try.prog w = .ok (.slice (some ⟨w.heap.size, 0, none⟩) 8 8) (w.alloc (.cells (zb 8) 4)) := mk_any 8 (by omega) w

section
variable {w1 w2 : World} {h off : Nat} {v v0 : Value} {c z : Obj}
theorem nx_size (hw : (((w1.setCell ⟨h, off, none⟩ v).alloc c).alloc z).drew = w2) : w2.heap.size = w1.heap.size + 2 := by
  subst hw; simp [World.drew, World.alloc, World.setCell]
theorem nx_block (hw : (((w1.setCell ⟨h, off, none⟩ v).alloc c).alloc z).drew = w2) {b : Nat} (hb : b < w1.heap.size) (hn : b ≠ h) : w2.heap[b]? = w1.heap[b]? := by
  subst hw
  show (((w1.setCell ⟨h, off, none⟩ v).alloc c).alloc z).heap[b]? = _
  rw [Below.heap_alloc _ _ _ (by simp [World.setCell]; omega), Below.heap_alloc _ _ _ (by simp [World.setCell]; omega), Below.heap_setCell _ _ _ _ hn]
theorem nx_new (hw : (((w1.setCell ⟨h, off, none⟩ v).alloc c).alloc z).drew = w2) : w2.heap[w1.heap.size + 1]? = some z := by
  subst hw
  show (((w1.setCell ⟨h, off, none⟩ v).alloc c).alloc z).heap[w1.heap.size + 1]? = _
  show ((w1.setCell ⟨h, off, none⟩ v).heap.push c |>.push z)[w1.heap.size + 1]? = _
  have e : w1.heap.size + 1 = ((w1.setCell ⟨h, off, none⟩ v).heap.push c).size := by simp [World.setCell]
  rw [e, Array.getElem?_push_size]
theorem nx_in (hw : (((w1.setCell ⟨h, off, none⟩ v).alloc c).alloc z).drew = w2) (h0 : w1.cell? ⟨h, off, none⟩ = some v0) : w2.cell? ⟨h, off, none⟩ = some v := by
  subst hw
  have hlt := cell_lt h0
  exact old_cell (bl_drewN (bl_alloc (bl_one _ _) _) 1) (World.cell?_setCell_same _ _ _ h0)
theorem nx_out (hw : (((w1.setCell ⟨h, off, none⟩ v).alloc c).alloc z).drew = w2) {o : Nat} (ho : off ≠ o) (h0 : w1.cell? ⟨h, o, none⟩ = some v0) : w2.cell? ⟨h, o, none⟩ = some v0 := by
  subst hw
  exact old_cell (bl_drewN (bl_alloc (bl_one _ _) _) 1) ((World.cell?_setCell_other _ _ _ _ (fun e => ho (by injection e))).trans h0)
theorem nx_frz (hw : (((w1.setCell ⟨h, off, none⟩ v).alloc c).alloc z).drew = w2) {o : Nat} (hh : h < w1.heap.size) (h0 : w1.frozen? ⟨h, o, none⟩ = false) : w2.frozen? ⟨h, o, none⟩ = false := by
  subst hw
  have hb : Below (w1.setCell ⟨h, off, none⟩ v).heap.size (w1.setCell ⟨h, off, none⟩ v) ((((w1.setCell ⟨h, off, none⟩ v).alloc c).alloc z).drew) := bl_drewN (bl_alloc (bl_one _ _) _) 1
  rw [hb.frozen (by simpa [World.setCell] using hh), World.frozen?_setCell]
  exact h0
theorem nx_below {w : World} (hw : (((w1.setCell ⟨h, off, none⟩ v).alloc c).alloc z).drew = w2) (hb : Below w.heap.size w w1) (hh : w.heap.size ≤ h) : Below w.heap.size w w2 := by
  subst hw
  exact bl_drewN (bl_alloc (bl_alloc (bl_set hb hh) _) _) 1
end
theorem blk_bit {w : World} {b n : Nat} (h : w.heap[b]? = some (.cells (zb n) 4)) {i : Nat} (hi : i < n) : w.cell? ⟨b, i, none⟩ = some (.bool false) := by
  simp [World.cell?, h, zb_get n i hi]
theorem blk_frz {w : World} {b n : Nat} (h : w.heap[b]? = some (.cells (zb n) 4)) {i : Nat} : w.frozen? ⟨b, i, none⟩ = false := by
  simp [World.frozen?, h]
theorem blk_eq {w w' : World} {b : Nat} {z : Obj} (h : w.heap[b]? = some z) (e : w'.heap[b]? = w.heap[b]?) : w'.heap[b]? = some z := e.trans h

set_option maxHeartbeats 2000000 in
set_option maxRecDepth 100000 in
theorem new_any (w : World) :
    Calls Try.prog 6 #[] w fun e w' => ∃ g a, e = .returned (.pointer (some ⟨g, 0, none⟩)) ∧ Below w.heap.size w w' ∧ w.heap.size ≤ g ∧ (∀ k, k < 4 → w.heap.size ≤ a k) ∧ HeapAt w' g a (fun _ _ => false) := by
  go_enter Try.func6, Try.ntmps6
  go_wp2_with fail
  refine (all_any _).mono ?_
  rintro e w1 ⟨rfl, hb⟩
  have g0 : w1.cell? ⟨w.heap.size, 0, none⟩ = some (.bool true) := old_cell hb (by simp [go_sem])
  have g1 : w1.cell? ⟨w.heap.size, 1, none⟩ = some (.slice none 0 0) := old_cell hb (by simp [go_sem])
  have g2 : w1.cell? ⟨w.heap.size, 2, none⟩ = some (.slice none 0 0) := old_cell hb (by simp [go_sem])
  have g3 : w1.cell? ⟨w.heap.size, 3, none⟩ = some (.slice none 0 0) := old_cell hb (by simp [go_sem])
  have g4 : w1.cell? ⟨w.heap.size, 4, none⟩ = some (.slice none 0 0) := old_cell hb (by simp [go_sem])
  have hz : w.heap.size < w1.heap.size := by have := hb.size; simp at this; omega
  have hzz := hz
  have f1 : w1.frozen? ⟨w.heap.size, 1, none⟩ = false := (hb.frozen (by simp)).trans (by simp [go_sem])
  have f2 : w1.frozen? ⟨w.heap.size, 2, none⟩ = false := (hb.frozen (by simp)).trans (by simp [go_sem])
  have f3 : w1.frozen? ⟨w.heap.size, 3, none⟩ = false := (hb.frozen (by simp)).trans (by simp [go_sem])
  have f4 : w1.frozen? ⟨w.heap.size, 4, none⟩ = false := (hb.frozen (by simp)).trans (by simp [go_sem])
  have hB1 := Lib.hid (bl_then (bl_one _ _) hb)
  clear hb
  go_wp2
  refine wp_loop_rounds 5 ?_
  have n0 : (w.heap.size = w1.heap.size) = False := by simp; omega
  have n1 : (w.heap.size = w1.heap.size + 1) = False := by simp; omega
  have hm := mk0
  rw [rounds_succ]
  go_wp2
  go_region
  go_wp2
  clear n0 n1 hm
  generalize hw : (((w1.setCell ⟨w.heap.size, 1, none⟩ (.slice (some ⟨w1.heap.size + 1, 0, none⟩) 64 64)).alloc (.cells #[.int .i64 4, .int .i64 64, .int .i64 262144] 52)).alloc (.cells (zb 64) 4)).drew = w2
  have z2 : w1.heap.size + 2 ≤ w2.heap.size := by have := nx_size hw; omega
  have hz' : w.heap.size < w2.heap.size := by omega
  have hB2 := Lib.hid (nx_below hw hB1.out (Nat.le_refl _))
  have g0' := nx_out hw (o := 0) (by decide) g0
  have g1' := nx_in hw g1
  have g2' := nx_out hw (o := 2) (by decide) g2
  have g3' := nx_out hw (o := 3) (by decide) g3
  have g4' := nx_out hw (o := 4) (by decide) g4
  have f1' := nx_frz hw hz f1
  have f2' := nx_frz hw hz f2
  have f3' := nx_frz hw hz f3
  have f4' := nx_frz hw hz f4
  have b0_2 := Lib.hid (nx_new hw)
  clear hw hz g0 g1 g2 g3 g4 f1 f2 f3 f4
  have hz := hz'
  have g0 := g0'
  have g1 := g1'
  have g2 := g2'
  have g3 := g3'
  have g4 := g4'
  have f1 := f1'
  have f2 := f2'
  have f3 := f3'
  have f4 := f4'
  clear hz' g0' g1' g2' g3' g4' f1' f2' f3' f4'
  have n0 : (w.heap.size = w2.heap.size) = False := by simp; omega
  have n1 : (w.heap.size = w2.heap.size + 1) = False := by simp; omega
  have hm := mk1
  rw [rounds_succ]
  go_wp2
  go_region
  go_wp2
  clear n0 n1 hm
  generalize hw : (((w2.setCell ⟨w.heap.size, 2, none⟩ (.slice (some ⟨w2.heap.size + 1, 0, none⟩) 32 32)).alloc (.cells #[.int .i64 16, .int .i64 32, .int .i64 263168] 52)).alloc (.cells (zb 32) 4)).drew = w3
  have z3 : w2.heap.size + 2 ≤ w3.heap.size := by have := nx_size hw; omega
  have hz' : w.heap.size < w3.heap.size := by omega
  have hB3 := Lib.hid (nx_below hw hB2.out (Nat.le_refl _))
  have g0' := nx_out hw (o := 0) (by decide) g0
  have g1' := nx_out hw (o := 1) (by decide) g1
  have g2' := nx_in hw g2
  have g3' := nx_out hw (o := 3) (by decide) g3
  have g4' := nx_out hw (o := 4) (by decide) g4
  have f1' := nx_frz hw hz f1
  have f2' := nx_frz hw hz f2
  have f3' := nx_frz hw hz f3
  have f4' := nx_frz hw hz f4
  have b1_3 := Lib.hid (nx_new hw)
  have b0_3 := Lib.hid (blk_eq b0_2.out (nx_block hw (by omega) (by omega)))
  clear hw hz g0 g1 g2 g3 g4 f1 f2 f3 f4
  have hz := hz'
  have g0 := g0'
  have g1 := g1'
  have g2 := g2'
  have g3 := g3'
  have g4 := g4'
  have f1 := f1'
  have f2 := f2'
  have f3 := f3'
  have f4 := f4'
  clear hz' g0' g1' g2' g3' g4' f1' f2' f3' f4'
  have n0 : (w.heap.size = w3.heap.size) = False := by simp; omega
  have n1 : (w.heap.size = w3.heap.size + 1) = False := by simp; omega
  have hm := mk2
  rw [rounds_succ]
  go_wp2
  go_region
  go_wp2
  clear n0 n1 hm
  generalize hw : (((w3.setCell ⟨w.heap.size, 3, none⟩ (.slice (some ⟨w3.heap.size + 1, 0, none⟩) 16 16)).alloc (.cells #[.int .i64 64, .int .i64 16, .int .i64 265216] 52)).alloc (.cells (zb 16) 4)).drew = w4
  have z4 : w3.heap.size + 2 ≤ w4.heap.size := by have := nx_size hw; omega
  have hz' : w.heap.size < w4.heap.size := by omega
  have hB4 := Lib.hid (nx_below hw hB3.out (Nat.le_refl _))
  have g0' := nx_out hw (o := 0) (by decide) g0
  have g1' := nx_out hw (o := 1) (by decide) g1
  have g2' := nx_out hw (o := 2) (by decide) g2
  have g3' := nx_in hw g3
  have g4' := nx_out hw (o := 4) (by decide) g4
  have f1' := nx_frz hw hz f1
  have f2' := nx_frz hw hz f2
  have f3' := nx_frz hw hz f3
  have f4' := nx_frz hw hz f4
  have b2_4 := Lib.hid (nx_new hw)
  have b0_4 := Lib.hid (blk_eq b0_3.out (nx_block hw (by omega) (by omega)))
  have b1_4 := Lib.hid (blk_eq b1_3.out (nx_block hw (by omega) (by omega)))
  clear hw hz g0 g1 g2 g3 g4 f1 f2 f3 f4
  have hz := hz'
  have g0 := g0'
  have g1 := g1'
  have g2 := g2'
  have g3 := g3'
  have g4 := g4'
  have f1 := f1'
  have f2 := f2'
  have f3 := f3'
  have f4 := f4'
  clear hz' g0' g1' g2' g3' g4' f1' f2' f3' f4'
  have n0 : (w.heap.size = w4.heap.size) = False := by simp; omega
  have n1 : (w.heap.size = w4.heap.size + 1) = False := by simp; omega
  have hm := mk3
  rw [rounds_succ]
  go_wp2
  go_region
  go_wp2
  clear n0 n1 hm
  generalize hw : (((w4.setCell ⟨w.heap.size, 4, none⟩ (.slice (some ⟨w4.heap.size + 1, 0, none⟩) 8 8)).alloc (.cells #[.int .i64 128, .int .i64 8, .int .i64 269312] 52)).alloc (.cells (zb 8) 4)).drew = w5
  have z5 : w4.heap.size + 2 ≤ w5.heap.size := by have := nx_size hw; omega
  have hz' : w.heap.size < w5.heap.size := by omega
  have hB5 := Lib.hid (nx_below hw hB4.out (Nat.le_refl _))
  have g0' := nx_out hw (o := 0) (by decide) g0
  have g1' := nx_out hw (o := 1) (by decide) g1
  have g2' := nx_out hw (o := 2) (by decide) g2
  have g3' := nx_out hw (o := 3) (by decide) g3
  have g4' := nx_in hw g4
  have f1' := nx_frz hw hz f1
  have f2' := nx_frz hw hz f2
  have f3' := nx_frz hw hz f3
  have f4' := nx_frz hw hz f4
  have b3_5 := Lib.hid (nx_new hw)
  have b0_5 := Lib.hid (blk_eq b0_4.out (nx_block hw (by omega) (by omega)))
  have b1_5 := Lib.hid (blk_eq b1_4.out (nx_block hw (by omega) (by omega)))
  have b2_5 := Lib.hid (blk_eq b2_4.out (nx_block hw (by omega) (by omega)))
  clear hw hz g0 g1 g2 g3 g4 f1 f2 f3 f4
  have hz := hz'
  have g0 := g0'
  have g1 := g1'
  have g2 := g2'
  have g3 := g3'
  have g4 := g4'
  have f1 := f1'
  have f2 := f2'
  have f3 := f3'
  have f4 := f4'
  clear hz' g0' g1' g2' g3' g4' f1' f2' f3' f4'
  have G0 := Lib.hid g0
  have G1 := Lib.hid g1
  have G2 := Lib.hid g2
  have G3 := Lib.hid g3
  have G4 := Lib.hid g4
  clear g0 g1 g2 g3 g4
  rw [rounds_succ]
  go_wp2
  go_ret
  have hs := hB1.out.size
  refine ⟨w.heap.size, fun k => match k with | 0 => w1.heap.size + 1 | 1 => w2.heap.size + 1 | 2 => w3.heap.size + 1 | _ => w4.heap.size + 1, rfl, hB5.out, Nat.le_refl _, ?_, ?_⟩
  · intro k _
    match k with
    | 0 => exact (by show w.heap.size ≤ w1.heap.size + 1; omega)
    | 1 => exact (by show w.heap.size ≤ w2.heap.size + 1; omega)
    | 2 => exact (by show w.heap.size ≤ w3.heap.size + 1; omega)
    | k + 3 => exact (by show w.heap.size ≤ w4.heap.size + 1; omega)
  · refine ⟨G0.out, ?_, ?_, ?_, ?_, ?_⟩
    · intro k hk
      match k, hk with
      | 0, _ => exact G1.out
      | 1, _ => exact G2.out
      | 2, _ => exact G3.out
      | 3, _ => exact G4.out
    · intro k i hk hi
      match k, hk, hi with
      | 0, _, hi => exact blk_bit b0_5.out hi
      | 1, _, hi => exact blk_bit b1_5.out hi
      | 2, _, hi => exact blk_bit b2_5.out hi
      | 3, _, hi => exact blk_bit b3_5.out hi
    · intro k i hk hi
      match k, hk, hi with
      | 0, _, hi => exact blk_frz b0_5.out
      | 1, _, hi => exact blk_frz b1_5.out
      | 2, _, hi => exact blk_frz b2_5.out
      | 3, _, hi => exact blk_frz b3_5.out
    · intro k hk
      match k, hk with
      | 0, _ => exact (by show w1.heap.size + 1 ≠ w.heap.size; omega)
      | 1, _ => exact (by show w2.heap.size + 1 ≠ w.heap.size; omega)
      | 2, _ => exact (by show w3.heap.size + 1 ≠ w.heap.size; omega)
      | 3, _ => exact (by show w4.heap.size + 1 ≠ w.heap.size; omega)
    · intro j k hj hk
      match j, k, hj, hk with
      | 0, 0, _, _ => exact fun _ => rfl
      | 0, 1, _, _ => exact (by show w1.heap.size + 1 = w2.heap.size + 1 → _; omega)
      | 0, 2, _, _ => exact (by show w1.heap.size + 1 = w3.heap.size + 1 → _; omega)
      | 0, 3, _, _ => exact (by show w1.heap.size + 1 = w4.heap.size + 1 → _; omega)
      | 1, 0, _, _ => exact (by show w2.heap.size + 1 = w1.heap.size + 1 → _; omega)
      | 1, 1, _, _ => exact fun _ => rfl
      | 1, 2, _, _ => exact (by show w2.heap.size + 1 = w3.heap.size + 1 → _; omega)
      | 1, 3, _, _ => exact (by show w2.heap.size + 1 = w4.heap.size + 1 → _; omega)
      | 2, 0, _, _ => exact (by show w3.heap.size + 1 = w1.heap.size + 1 → _; omega)
      | 2, 1, _, _ => exact (by show w3.heap.size + 1 = w2.heap.size + 1 → _; omega)
      | 2, 2, _, _ => exact fun _ => rfl
      | 2, 3, _, _ => exact (by show w3.heap.size + 1 = w4.heap.size + 1 → _; omega)
      | 3, 0, _, _ => exact (by show w4.heap.size + 1 = w1.heap.size + 1 → _; omega)
      | 3, 1, _, _ => exact (by show w4.heap.size + 1 = w2.heap.size + 1 → _; omega)
      | 3, 2, _, _ => exact (by show w4.heap.size + 1 = w3.heap.size + 1 → _; omega)
      | 3, 3, _, _ => exact fun _ => rfl
end Go.Proofs.Ytefkaikedapokaa
