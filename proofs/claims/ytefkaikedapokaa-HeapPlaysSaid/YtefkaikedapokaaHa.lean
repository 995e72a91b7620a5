/- Contracts of package heap: all, Class, New. -/
import Derived.Test.YtefkaikedapokaaProg
import Derived.WalkKit
import Derived.Below
import Derived.BigQuiet
import Derived.Deep.QuietTactic
import Derived.KernelRfl
import Derived.Deep.DeepFit
namespace Go.Proofs.Ytefkaikedapokaa
open Go.RowKit
set_option linter.unusedSimpArgs false


theorem bl_drewN {B : Nat} {a w : World} (h : Below B a w) (n : Nat) : Below B a (w.drewN n) := ⟨h.os, h.tape, h.output, h.size, h.block⟩
theorem bl_set {B : Nat} {a w : World} {g j : Nat} {u : Value} (h : Below B a w) (hp : B ≤ g) : Below B a (w.setCell ⟨g, j, none⟩ u) := h.setCell hp u
theorem bl_alloc {a w : World} (h : Below a.heap.size a w) (o : Obj) : Below a.heap.size a (w.alloc o) := h.alloc h.size o
theorem bl_then {a w1 w2 : World} (h : Below a.heap.size a w1) (k : Below w1.heap.size w1 w2) : Below a.heap.size a w2 :=
  h.trans (k.mono h.size)

def allV : Value := .agg #[.int .i64 4, .int .i64 64, .int .i64 262144, .int .i64 16, .int .i64 32, .int .i64 263168, .int .i64 64, .int .i64 16, .int .i64 265216, .int .i64 128, .int .i64 8, .int .i64 269312]

set_option maxHeartbeats 1000000 in
set_option maxRecDepth 100000 in
theorem all_any (w : World) : Calls Try.prog 18 #[] w fun e w' => e = .returned allV ∧ Below w.heap.size w w' := by
  go_enter Try.func18, Try.ntmps18
  go_wp2
  refine wp_loop_rounds 5 ?_
  iterate 4 (rw [rounds_succ]; go_wp2; go_quiet (fail); go_wp2)
  rw [rounds_succ]
  go_wp2
  refine bodyPost_ret (v := allV) ?_ rfl ?_
  · simp [results, Try.results18, go_sem, allV]
  · refine ⟨rfl, ?_⟩
    repeat (first | with_reducible exact Below.refl _ _ | with_reducible apply bl_drewN | with_reducible apply bl_alloc | with_reducible refine bl_set ?_ (by first | exact Nat.le_refl _ | exact Nat.le_add_right _ _))

theorem ix0 (w : World) : (Instr.index 53 allV (.int .i64 0)).run Try.prog w = .ok (.agg #[.int .i64 4, .int .i64 64, .int .i64 262144]) w := by kernel_rfl
theorem ix1 (w : World) : (Instr.index 53 allV (.int .i64 1)).run Try.prog w = .ok (.agg #[.int .i64 16, .int .i64 32, .int .i64 263168]) w := by kernel_rfl
theorem ix2 (w : World) : (Instr.index 53 allV (.int .i64 2)).run Try.prog w = .ok (.agg #[.int .i64 64, .int .i64 16, .int .i64 265216]) w := by kernel_rfl
theorem ix3 (w : World) : (Instr.index 53 allV (.int .i64 3)).run Try.prog w = .ok (.agg #[.int .i64 128, .int .i64 8, .int .i64 269312]) w := by kernel_rfl
theorem fb0 (w : World) : (Instr.field 52 (.agg #[.int .i64 4, .int .i64 64, .int .i64 262144]) 2).run Try.prog w = .ok (.int .i64 262144) w := by kernel_rfl
theorem fs0 (w : World) : (Instr.field 52 (.agg #[.int .i64 4, .int .i64 64, .int .i64 262144]) 0).run Try.prog w = .ok (.int .i64 4) w := by kernel_rfl
theorem fb1 (w : World) : (Instr.field 52 (.agg #[.int .i64 16, .int .i64 32, .int .i64 263168]) 2).run Try.prog w = .ok (.int .i64 263168) w := by kernel_rfl
theorem fs1 (w : World) : (Instr.field 52 (.agg #[.int .i64 16, .int .i64 32, .int .i64 263168]) 0).run Try.prog w = .ok (.int .i64 16) w := by kernel_rfl
theorem fb2 (w : World) : (Instr.field 52 (.agg #[.int .i64 64, .int .i64 16, .int .i64 265216]) 2).run Try.prog w = .ok (.int .i64 265216) w := by kernel_rfl
theorem fs2 (w : World) : (Instr.field 52 (.agg #[.int .i64 64, .int .i64 16, .int .i64 265216]) 0).run Try.prog w = .ok (.int .i64 64) w := by kernel_rfl
theorem fb3 (w : World) : (Instr.field 52 (.agg #[.int .i64 128, .int .i64 8, .int .i64 269312]) 2).run Try.prog w = .ok (.int .i64 269312) w := by kernel_rfl
theorem fs3 (w : World) : (Instr.field 52 (.agg #[.int .i64 128, .int .i64 8, .int .i64 269312]) 0).run Try.prog w = .ok (.int .i64 128) w := by kernel_rfl
attribute [local go_sem] ix0 ix1 ix2 ix3

theorem results_tmp4 {fn : Func} {t u v x : Tmp} (h : fn.results = #[.tmp t, .tmp u, .tmp v, .tmp x]) (tmps : Array Value) (P : Program) (w : World) :
    (results fn tmps).run P w = .ok (.tuple #[tmps.getD t undef, tmps.getD u undef, tmps.getD v undef, tmps.getD x undef]) w := by simp [results, h]

set_option maxHeartbeats 2000000 in
set_option maxRecDepth 100000 in
theorem class_0 (n : Int) (h0 : 0 ≤ n) (h1 : n ≤ 4) (w : World) : Calls Try.prog 7 #[.int .i64 n] w fun e w' => e = .returned (.tuple #[.int .i64 0, .int .i64 4, .int .i64 64, .int .i64 0]) ∧ Below w.heap.size w w' := by
  have b0 : decide (0 ≤ n) = true := by simp; omega
  have b1 : decide (n ≤ 4) = true := by simp; omega
  go_enter Try.func7, Try.ntmps7
  go_wp2_with fail
  refine (all_any _).mono ?_
  rintro e w1 ⟨rfl, hb⟩
  go_wp2
  refine wp_loop_rounds 5 ?_
  rw [rounds_succ]
  go_wp2
  go_quiet (fail)
  go_wp2
  refine bodyPost_ret (results_tmp4 rfl _ _ _) rfl ⟨rfl, ?_⟩
  refine bl_then hb ?_
  repeat (first | with_reducible exact Below.refl _ _ | with_reducible apply bl_drewN | with_reducible apply bl_alloc)

set_option maxHeartbeats 2000000 in
set_option maxRecDepth 100000 in
theorem class_1 (n : Int) (h0 : 5 ≤ n) (h1 : n ≤ 16) (w : World) : Calls Try.prog 7 #[.int .i64 n] w fun e w' => e = .returned (.tuple #[.int .i64 1, .int .i64 16, .int .i64 32, .int .i64 0]) ∧ Below w.heap.size w w' := by
  have b0 : decide (0 ≤ n) = true := by simp; omega
  have b1 : decide (n ≤ 4) = false := by simp; omega
  have b2 : decide (n ≤ 16) = true := by simp; omega
  go_enter Try.func7, Try.ntmps7
  go_wp2_with fail
  refine (all_any _).mono ?_
  rintro e w1 ⟨rfl, hb⟩
  go_wp2
  refine wp_loop_rounds 5 ?_
  rw [rounds_succ]
  go_wp2
  rw [rounds_succ]
  go_wp2
  go_quiet (fail)
  go_wp2
  refine bodyPost_ret (results_tmp4 rfl _ _ _) rfl ⟨rfl, ?_⟩
  refine bl_then hb ?_
  repeat (first | with_reducible exact Below.refl _ _ | with_reducible apply bl_drewN | with_reducible apply bl_alloc)

set_option maxHeartbeats 2000000 in
set_option maxRecDepth 100000 in
theorem class_2 (n : Int) (h0 : 17 ≤ n) (h1 : n ≤ 64) (w : World) : Calls Try.prog 7 #[.int .i64 n] w fun e w' => e = .returned (.tuple #[.int .i64 2, .int .i64 64, .int .i64 16, .int .i64 0]) ∧ Below w.heap.size w w' := by
  have b0 : decide (0 ≤ n) = true := by simp; omega
  have b1 : decide (n ≤ 4) = false := by simp; omega
  have b2 : decide (n ≤ 16) = false := by simp; omega
  have b3 : decide (n ≤ 64) = true := by simp; omega
  go_enter Try.func7, Try.ntmps7
  go_wp2_with fail
  refine (all_any _).mono ?_
  rintro e w1 ⟨rfl, hb⟩
  go_wp2
  refine wp_loop_rounds 5 ?_
  rw [rounds_succ]
  go_wp2
  rw [rounds_succ]
  go_wp2
  rw [rounds_succ]
  go_wp2
  go_quiet (fail)
  go_wp2
  refine bodyPost_ret (results_tmp4 rfl _ _ _) rfl ⟨rfl, ?_⟩
  refine bl_then hb ?_
  repeat (first | with_reducible exact Below.refl _ _ | with_reducible apply bl_drewN | with_reducible apply bl_alloc)

set_option maxHeartbeats 2000000 in
set_option maxRecDepth 100000 in
theorem class_3 (n : Int) (h0 : 65 ≤ n) (h1 : n ≤ 128) (w : World) : Calls Try.prog 7 #[.int .i64 n] w fun e w' => e = .returned (.tuple #[.int .i64 3, .int .i64 128, .int .i64 8, .int .i64 0]) ∧ Below w.heap.size w w' := by
  have b0 : decide (0 ≤ n) = true := by simp; omega
  have b1 : decide (n ≤ 4) = false := by simp; omega
  have b2 : decide (n ≤ 16) = false := by simp; omega
  have b3 : decide (n ≤ 64) = false := by simp; omega
  have b4 : decide (n ≤ 128) = true := by simp; omega
  go_enter Try.func7, Try.ntmps7
  go_wp2_with fail
  refine (all_any _).mono ?_
  rintro e w1 ⟨rfl, hb⟩
  go_wp2
  refine wp_loop_rounds 5 ?_
  rw [rounds_succ]
  go_wp2
  rw [rounds_succ]
  go_wp2
  rw [rounds_succ]
  go_wp2
  rw [rounds_succ]
  go_wp2
  go_quiet (fail)
  go_wp2
  refine bodyPost_ret (results_tmp4 rfl _ _ _) rfl ⟨rfl, ?_⟩
  refine bl_then hb ?_
  repeat (first | with_reducible exact Below.refl _ _ | with_reducible apply bl_drewN | with_reducible apply bl_alloc)

set_option maxHeartbeats 2000000 in
set_option maxRecDepth 100000 in
theorem class_neg (n : Int) (h0 : n < 0) (w : World) : Calls Try.prog 7 #[.int .i64 n] w fun e w' => e = .returned (.tuple #[.int .i64 0, .int .i64 0, .int .i64 0, .int .i64 2]) ∧ Below w.heap.size w w' := by
  have b0 : decide (0 ≤ n) = false := by simp; omega
  go_enter Try.func7, Try.ntmps7
  go_wp2_with fail
  refine (all_any _).mono ?_
  rintro e w1 ⟨rfl, hb⟩
  go_wp2
  refine wp_loop_rounds 5 ?_
  rw [rounds_succ]
  go_wp2
  rw [rounds_succ]
  go_wp2
  rw [rounds_succ]
  go_wp2
  rw [rounds_succ]
  go_wp2
  rw [rounds_succ]
  go_wp2
  refine bodyPost_ret (results_tmp4 rfl _ _ _) rfl ⟨rfl, ?_⟩
  refine bl_then hb ?_
  repeat (first | with_reducible exact Below.refl _ _ | with_reducible apply bl_drewN | with_reducible apply bl_alloc)

set_option maxHeartbeats 2000000 in
set_option maxRecDepth 100000 in
theorem class_big (n : Int) (h0 : 128 < n) (w : World) : Calls Try.prog 7 #[.int .i64 n] w fun e w' => e = .returned (.tuple #[.int .i64 0, .int .i64 0, .int .i64 0, .int .i64 2]) ∧ Below w.heap.size w w' := by
  have b0 : decide (0 ≤ n) = true := by simp; omega
  have b1 : decide (n ≤ 4) = false := by simp; omega
  have b2 : decide (n ≤ 16) = false := by simp; omega
  have b3 : decide (n ≤ 64) = false := by simp; omega
  have b4 : decide (n ≤ 128) = false := by simp; omega
  go_enter Try.func7, Try.ntmps7
  go_wp2_with fail
  refine (all_any _).mono ?_
  rintro e w1 ⟨rfl, hb⟩
  go_wp2
  refine wp_loop_rounds 5 ?_
  rw [rounds_succ]
  go_wp2
  rw [rounds_succ]
  go_wp2
  rw [rounds_succ]
  go_wp2
  rw [rounds_succ]
  go_wp2
  rw [rounds_succ]
  go_wp2
  refine bodyPost_ret (results_tmp4 rfl _ _ _) rfl ⟨rfl, ?_⟩
  refine bl_then hb ?_
  repeat (first | with_reducible exact Below.refl _ _ | with_reducible apply bl_drewN | with_reducible apply bl_alloc)

end Go.Proofs.Ytefkaikedapokaa
