/- Contracts of package heap: none, find$1, find. -/
import Derived.Test.YtefkaikedapokaaHa
namespace Go.Proofs.Ytefkaikedapokaa
open Go.RowKit
attribute [local go_sem] ix0 ix1 ix2 ix3

/-- How many blocks class k has. -/
def nb : Nat → Nat
  | 0 => 64 | 1 => 32 | 2 => 16 | _ => 8
/-- Their words. -/
def sz : Nat → Nat
  | 0 => 4 | 1 => 16 | 2 => 64 | _ => 128
/-- Where they begin. -/
def bs : Nat → Nat
  | 0 => 262144 | 1 => 263168 | 2 => 265216 | _ => 269312

structure HeapAt (w : World) (g : Nat) (a : Nat → Nat) (u : Nat → Nat → Bool) : Prop where
  made : w.cell? ⟨g, 0, none⟩ = some (.bool true)
  arr : ∀ k, k < 4 → w.cell? ⟨g, 1 + k, none⟩ = some (.slice (some ⟨a k, 0, none⟩) (nb k) (nb k))
  bit : ∀ k i, k < 4 → i < nb k → w.cell? ⟨a k, i, none⟩ = some (.bool (u k i))
  frz : ∀ k i, k < 4 → i < nb k → w.frozen? ⟨a k, i, none⟩ = false
  ne : ∀ k, k < 4 → a k ≠ g
  inj : ∀ j k, j < 4 → k < 4 → a j = a k → j = k

theorem none_any (g : Nat) (w : World) (h : w.cell? ⟨g, 0, none⟩ = some (.bool true)) :
    Calls Try.prog 19 #[.pointer (some ⟨g, 0, none⟩)] w fun e w' => e = .returned (.bool false) ∧ w = w' := by
  go_enter Try.func19, Try.ntmps19
  go_wp2
  go_ret
  exact ⟨rfl, rfl⟩

set_option maxHeartbeats 1000000 in
set_option maxRecDepth 100000 in
theorem lies_lt_0 (x : Int) (h : x < 262144) (p : Nat) (w : World) (hc : w.cell? ⟨p, 0, none⟩ = some (.int .i64 x)) (hp : p < w.heap.size) :
    Calls Try.prog 23 #[.agg #[.int .i64 4, .int .i64 64, .int .i64 262144], .pointer (some ⟨p, 0, none⟩)] w fun e w' => e = .returned (.bool false) ∧ Below w.heap.size w w' := by
  have b0 : decide (262144 ≤ x) = false := by simp; omega
  have hp' : (p = w.heap.size) = False := by simp; omega
  go_enter Try.func23, Try.ntmps23
  go_wp2
  go_ret
  refine ⟨rfl, ?_⟩
  repeat (first | with_reducible exact Below.refl _ _ | with_reducible apply bl_drewN | with_reducible apply bl_alloc)

set_option maxHeartbeats 1000000 in
set_option maxRecDepth 100000 in
theorem lies_in_0 (x : Int) (h : 262144 ≤ x) (h' : x < 263168) (p : Nat) (w : World) (hc : w.cell? ⟨p, 0, none⟩ = some (.int .i64 x)) (hp : p < w.heap.size) :
    Calls Try.prog 23 #[.agg #[.int .i64 4, .int .i64 64, .int .i64 262144], .pointer (some ⟨p, 0, none⟩)] w fun e w' => e = .returned (.bool true) ∧ Below w.heap.size w w' := by
  have b0 : decide (262144 ≤ x) = true := by simp; omega
  have b1 : decide (x < 263168) = true := by simp; omega
  have hp' : (p = w.heap.size) = False := by simp; omega
  go_enter Try.func23, Try.ntmps23
  go_wp2
  go_ret
  refine ⟨rfl, ?_⟩
  repeat (first | with_reducible exact Below.refl _ _ | with_reducible apply bl_drewN | with_reducible apply bl_alloc)

set_option maxHeartbeats 1000000 in
set_option maxRecDepth 100000 in
theorem lies_ge_0 (x : Int) (h : 263168 ≤ x) (p : Nat) (w : World) (hc : w.cell? ⟨p, 0, none⟩ = some (.int .i64 x)) (hp : p < w.heap.size) :
    Calls Try.prog 23 #[.agg #[.int .i64 4, .int .i64 64, .int .i64 262144], .pointer (some ⟨p, 0, none⟩)] w fun e w' => e = .returned (.bool false) ∧ Below w.heap.size w w' := by
  have b0 : decide (262144 ≤ x) = true := by simp; omega
  have b1 : decide (x < 263168) = false := by simp; omega
  have hp' : (p = w.heap.size) = False := by simp; omega
  go_enter Try.func23, Try.ntmps23
  go_wp2
  go_ret
  refine ⟨rfl, ?_⟩
  repeat (first | with_reducible exact Below.refl _ _ | with_reducible apply bl_drewN | with_reducible apply bl_alloc)

set_option maxHeartbeats 1000000 in
set_option maxRecDepth 100000 in
theorem lies_lt_1 (x : Int) (h : x < 263168) (p : Nat) (w : World) (hc : w.cell? ⟨p, 0, none⟩ = some (.int .i64 x)) (hp : p < w.heap.size) :
    Calls Try.prog 23 #[.agg #[.int .i64 16, .int .i64 32, .int .i64 263168], .pointer (some ⟨p, 0, none⟩)] w fun e w' => e = .returned (.bool false) ∧ Below w.heap.size w w' := by
  have b0 : decide (263168 ≤ x) = false := by simp; omega
  have hp' : (p = w.heap.size) = False := by simp; omega
  go_enter Try.func23, Try.ntmps23
  go_wp2
  go_ret
  refine ⟨rfl, ?_⟩
  repeat (first | with_reducible exact Below.refl _ _ | with_reducible apply bl_drewN | with_reducible apply bl_alloc)

set_option maxHeartbeats 1000000 in
set_option maxRecDepth 100000 in
theorem lies_in_1 (x : Int) (h : 263168 ≤ x) (h' : x < 265216) (p : Nat) (w : World) (hc : w.cell? ⟨p, 0, none⟩ = some (.int .i64 x)) (hp : p < w.heap.size) :
    Calls Try.prog 23 #[.agg #[.int .i64 16, .int .i64 32, .int .i64 263168], .pointer (some ⟨p, 0, none⟩)] w fun e w' => e = .returned (.bool true) ∧ Below w.heap.size w w' := by
  have b0 : decide (263168 ≤ x) = true := by simp; omega
  have b1 : decide (x < 265216) = true := by simp; omega
  have hp' : (p = w.heap.size) = False := by simp; omega
  go_enter Try.func23, Try.ntmps23
  go_wp2
  go_ret
  refine ⟨rfl, ?_⟩
  repeat (first | with_reducible exact Below.refl _ _ | with_reducible apply bl_drewN | with_reducible apply bl_alloc)

set_option maxHeartbeats 1000000 in
set_option maxRecDepth 100000 in
theorem lies_ge_1 (x : Int) (h : 265216 ≤ x) (p : Nat) (w : World) (hc : w.cell? ⟨p, 0, none⟩ = some (.int .i64 x)) (hp : p < w.heap.size) :
    Calls Try.prog 23 #[.agg #[.int .i64 16, .int .i64 32, .int .i64 263168], .pointer (some ⟨p, 0, none⟩)] w fun e w' => e = .returned (.bool false) ∧ Below w.heap.size w w' := by
  have b0 : decide (263168 ≤ x) = true := by simp; omega
  have b1 : decide (x < 265216) = false := by simp; omega
  have hp' : (p = w.heap.size) = False := by simp; omega
  go_enter Try.func23, Try.ntmps23
  go_wp2
  go_ret
  refine ⟨rfl, ?_⟩
  repeat (first | with_reducible exact Below.refl _ _ | with_reducible apply bl_drewN | with_reducible apply bl_alloc)

set_option maxHeartbeats 1000000 in
set_option maxRecDepth 100000 in
theorem lies_lt_2 (x : Int) (h : x < 265216) (p : Nat) (w : World) (hc : w.cell? ⟨p, 0, none⟩ = some (.int .i64 x)) (hp : p < w.heap.size) :
    Calls Try.prog 23 #[.agg #[.int .i64 64, .int .i64 16, .int .i64 265216], .pointer (some ⟨p, 0, none⟩)] w fun e w' => e = .returned (.bool false) ∧ Below w.heap.size w w' := by
  have b0 : decide (265216 ≤ x) = false := by simp; omega
  have hp' : (p = w.heap.size) = False := by simp; omega
  go_enter Try.func23, Try.ntmps23
  go_wp2
  go_ret
  refine ⟨rfl, ?_⟩
  repeat (first | with_reducible exact Below.refl _ _ | with_reducible apply bl_drewN | with_reducible apply bl_alloc)

set_option maxHeartbeats 1000000 in
set_option maxRecDepth 100000 in
theorem lies_in_2 (x : Int) (h : 265216 ≤ x) (h' : x < 269312) (p : Nat) (w : World) (hc : w.cell? ⟨p, 0, none⟩ = some (.int .i64 x)) (hp : p < w.heap.size) :
    Calls Try.prog 23 #[.agg #[.int .i64 64, .int .i64 16, .int .i64 265216], .pointer (some ⟨p, 0, none⟩)] w fun e w' => e = .returned (.bool true) ∧ Below w.heap.size w w' := by
  have b0 : decide (265216 ≤ x) = true := by simp; omega
  have b1 : decide (x < 269312) = true := by simp; omega
  have hp' : (p = w.heap.size) = False := by simp; omega
  go_enter Try.func23, Try.ntmps23
  go_wp2
  go_ret
  refine ⟨rfl, ?_⟩
  repeat (first | with_reducible exact Below.refl _ _ | with_reducible apply bl_drewN | with_reducible apply bl_alloc)

set_option maxHeartbeats 1000000 in
set_option maxRecDepth 100000 in
theorem lies_ge_2 (x : Int) (h : 269312 ≤ x) (p : Nat) (w : World) (hc : w.cell? ⟨p, 0, none⟩ = some (.int .i64 x)) (hp : p < w.heap.size) :
    Calls Try.prog 23 #[.agg #[.int .i64 64, .int .i64 16, .int .i64 265216], .pointer (some ⟨p, 0, none⟩)] w fun e w' => e = .returned (.bool false) ∧ Below w.heap.size w w' := by
  have b0 : decide (265216 ≤ x) = true := by simp; omega
  have b1 : decide (x < 269312) = false := by simp; omega
  have hp' : (p = w.heap.size) = False := by simp; omega
  go_enter Try.func23, Try.ntmps23
  go_wp2
  go_ret
  refine ⟨rfl, ?_⟩
  repeat (first | with_reducible exact Below.refl _ _ | with_reducible apply bl_drewN | with_reducible apply bl_alloc)

set_option maxHeartbeats 1000000 in
set_option maxRecDepth 100000 in
theorem lies_lt_3 (x : Int) (h : x < 269312) (p : Nat) (w : World) (hc : w.cell? ⟨p, 0, none⟩ = some (.int .i64 x)) (hp : p < w.heap.size) :
    Calls Try.prog 23 #[.agg #[.int .i64 128, .int .i64 8, .int .i64 269312], .pointer (some ⟨p, 0, none⟩)] w fun e w' => e = .returned (.bool false) ∧ Below w.heap.size w w' := by
  have b0 : decide (269312 ≤ x) = false := by simp; omega
  have hp' : (p = w.heap.size) = False := by simp; omega
  go_enter Try.func23, Try.ntmps23
  go_wp2
  go_ret
  refine ⟨rfl, ?_⟩
  repeat (first | with_reducible exact Below.refl _ _ | with_reducible apply bl_drewN | with_reducible apply bl_alloc)

set_option maxHeartbeats 1000000 in
set_option maxRecDepth 100000 in
theorem lies_in_3 (x : Int) (h : 269312 ≤ x) (h' : x < 273408) (p : Nat) (w : World) (hc : w.cell? ⟨p, 0, none⟩ = some (.int .i64 x)) (hp : p < w.heap.size) :
    Calls Try.prog 23 #[.agg #[.int .i64 128, .int .i64 8, .int .i64 269312], .pointer (some ⟨p, 0, none⟩)] w fun e w' => e = .returned (.bool true) ∧ Below w.heap.size w w' := by
  have b0 : decide (269312 ≤ x) = true := by simp; omega
  have b1 : decide (x < 273408) = true := by simp; omega
  have hp' : (p = w.heap.size) = False := by simp; omega
  go_enter Try.func23, Try.ntmps23
  go_wp2
  go_ret
  refine ⟨rfl, ?_⟩
  repeat (first | with_reducible exact Below.refl _ _ | with_reducible apply bl_drewN | with_reducible apply bl_alloc)

set_option maxHeartbeats 1000000 in
set_option maxRecDepth 100000 in
theorem lies_ge_3 (x : Int) (h : 273408 ≤ x) (p : Nat) (w : World) (hc : w.cell? ⟨p, 0, none⟩ = some (.int .i64 x)) (hp : p < w.heap.size) :
    Calls Try.prog 23 #[.agg #[.int .i64 128, .int .i64 8, .int .i64 269312], .pointer (some ⟨p, 0, none⟩)] w fun e w' => e = .returned (.bool false) ∧ Below w.heap.size w w' := by
  have b0 : decide (269312 ≤ x) = true := by simp; omega
  have b1 : decide (x < 273408) = false := by simp; omega
  have hp' : (p = w.heap.size) = False := by simp; omega
  go_enter Try.func23, Try.ntmps23
  go_wp2
  go_ret
  refine ⟨rfl, ?_⟩
  repeat (first | with_reducible exact Below.refl _ _ | with_reducible apply bl_drewN | with_reducible apply bl_alloc)

end Go.Proofs.Ytefkaikedapokaa
