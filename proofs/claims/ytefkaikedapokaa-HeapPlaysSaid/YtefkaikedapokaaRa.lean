/- Contracts of the reference heap: Class, place, find, Live. -/
import Derived.Test.YtefkaikedapokaaHk
import Derived.BigQuiet
namespace Go.Proofs.Ytefkaikedapokaa
open Go.RowKit
set_option linter.unusedSimpArgs false
set_option linter.unusedVariables false

set_option maxHeartbeats 2000000 in
set_option maxRecDepth 100000 in
theorem place_0 (i : Nat) (hi : i < 64) (w : World) : Calls Try.prog 22 #[.int .i64 0, .int .i64 i] w fun e w' => e = .returned (.int .i64 (262144 + 16 * i)) ∧ Below w.heap.size w w' := by
  go_enter Try.func22, Try.ntmps22
  go_wp2
  refine wp_loop_rounds 1 ?_
  rw [rounds_succ]
  go_wp2
  go_ret
  refine ⟨rfl, ?_⟩
  repeat (first | with_reducible exact Below.refl _ _ | with_reducible apply bl_drewN | with_reducible apply bl_alloc)
set_option maxHeartbeats 2000000 in
set_option maxRecDepth 100000 in
theorem place_1 (i : Nat) (hi : i < 32) (w : World) : Calls Try.prog 22 #[.int .i64 1, .int .i64 i] w fun e w' => e = .returned (.int .i64 (263168 + 64 * i)) ∧ Below w.heap.size w w' := by
  go_enter Try.func22, Try.ntmps22
  go_wp2
  refine wp_loop_rounds 2 ?_
  iterate 1 (rw [rounds_succ]; go_wp2; go_quiet (fail); go_wp2)
  rw [rounds_succ]
  go_wp2
  go_ret
  refine ⟨rfl, ?_⟩
  repeat (first | with_reducible exact Below.refl _ _ | with_reducible apply bl_drewN | with_reducible apply bl_alloc)
set_option maxHeartbeats 2000000 in
set_option maxRecDepth 100000 in
theorem place_2 (i : Nat) (hi : i < 16) (w : World) : Calls Try.prog 22 #[.int .i64 2, .int .i64 i] w fun e w' => e = .returned (.int .i64 (265216 + 256 * i)) ∧ Below w.heap.size w w' := by
  go_enter Try.func22, Try.ntmps22
  go_wp2
  refine wp_loop_rounds 3 ?_
  iterate 2 (rw [rounds_succ]; go_wp2; go_quiet (fail); go_wp2)
  rw [rounds_succ]
  go_wp2
  go_ret
  refine ⟨rfl, ?_⟩
  repeat (first | with_reducible exact Below.refl _ _ | with_reducible apply bl_drewN | with_reducible apply bl_alloc)
set_option maxHeartbeats 2000000 in
set_option maxRecDepth 100000 in
theorem place_3 (i : Nat) (hi : i < 8) (w : World) : Calls Try.prog 22 #[.int .i64 3, .int .i64 i] w fun e w' => e = .returned (.int .i64 (269312 + 512 * i)) ∧ Below w.heap.size w w' := by
  go_enter Try.func22, Try.ntmps22
  go_wp2
  refine wp_loop_rounds 4 ?_
  iterate 3 (rw [rounds_succ]; go_wp2; go_quiet (fail); go_wp2)
  rw [rounds_succ]
  go_wp2
  go_ret
  refine ⟨rfl, ?_⟩
  repeat (first | with_reducible exact Below.refl _ _ | with_reducible apply bl_drewN | with_reducible apply bl_alloc)
theorem place_any (k i : Nat) (hk : k < 4) (hi : i < nb k) (w : World) : Calls Try.prog 22 #[.int .i64 (k : Nat), .int .i64 (i : Nat)] w fun e w' => e = .returned (.int .i64 (addr k i : Nat)) ∧ Below w.heap.size w w' := by
  match k, hk, hi with
  | 0, _, hi => rw [addr_0]; exact place_0 i hi w
  | 1, _, hi => rw [addr_1]; exact place_1 i hi w
  | 2, _, hi => rw [addr_2]; exact place_2 i hi w
  | 3, _, hi => rw [addr_3]; exact place_3 i hi w
set_option maxHeartbeats 2000000 in
set_option maxRecDepth 100000 in
theorem rclass_any (n : Int) (h0 : 0 ≤ n) (h1 : n ≤ 128) (w : World) :
    Calls Try.prog 14 #[.int .i64 n] w fun e w' => e = .returned (.tuple #[.int .i64 (cl n : Nat), .int .i64 (sz (cl n) : Nat), .int .i64 (nb (cl n) : Nat), .int .i64 0]) ∧ w = w' := by
  by_cases c0 : n ≤ 4
  · rw [cl_0 c0]
    go_enter Try.func14, Try.ntmps14
    go_wp2
    exact bodyPost_ret (results_tmp4 rfl _ _ _) rfl ⟨rfl, rfl⟩
  by_cases c1 : n ≤ 16
  · rw [cl_1 (by omega) c1]
    go_enter Try.func14, Try.ntmps14
    go_wp2
    exact bodyPost_ret (results_tmp4 rfl _ _ _) rfl ⟨rfl, rfl⟩
  by_cases c2 : n ≤ 64
  · rw [cl_2 (by omega) c2]
    go_enter Try.func14, Try.ntmps14
    go_wp2
    exact bodyPost_ret (results_tmp4 rfl _ _ _) rfl ⟨rfl, rfl⟩
  · rw [cl_3 (by omega)]
    go_enter Try.func14, Try.ntmps14
    go_wp2
    exact bodyPost_ret (results_tmp4 rfl _ _ _) rfl ⟨rfl, rfl⟩
set_option maxHeartbeats 2000000 in
set_option maxRecDepth 100000 in
theorem rclass_bad (n : Int) (h : n < 0 ∨ 128 < n) (w : World) :
    Calls Try.prog 14 #[.int .i64 n] w fun e w' => e = .returned (.tuple #[.int .i64 0, .int .i64 0, .int .i64 0, .int .i64 2]) ∧ w = w' := by
  rcases h with h | h
  · go_enter Try.func14, Try.ntmps14
    go_wp2
    exact bodyPost_ret (results_tmp4 rfl _ _ _) rfl ⟨rfl, rfl⟩
  · have h' : ¬ n < 0 := by omega
    go_enter Try.func14, Try.ntmps14
    go_wp2
    exact bodyPost_ret (results_tmp4 rfl _ _ _) rfl ⟨rfl, rfl⟩
end Go.Proofs.Ytefkaikedapokaa
