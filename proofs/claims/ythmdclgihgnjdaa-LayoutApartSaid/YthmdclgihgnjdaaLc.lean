/- LayoutApart: the contracts of Split and Fits. -/
import Derived.Test.YthmdclgihgnjdaaLb
namespace Go.Proofs.Ythmdclgihgnjdaa
open Go.RowKit
set_option linter.unusedSimpArgs false
set_option linter.unusedVariables false

theorem and20 (x : Int) (h0 : 0 ≤ x) (h1 : x < 1048576) : bits .and .i64 x 1048575 = x := by
  have h : ((BitVec.ofInt 64 x &&& BitVec.ofInt 64 1048575).toNat : Int) = x := by
    rw [BitVec.toNat_and]
    obtain ⟨n, rfl⟩ := Int.eq_ofNat_of_zero_le h0
    have e1 : (BitVec.ofInt 64 (n : Int)).toNat = n := by
      rw [BitVec.toNat_ofInt]; omega
    have e2 : (BitVec.ofInt 64 1048575).toNat = 2 ^ 20 - 1 := by decide
    rw [e1, e2, Nat.and_two_pow_sub_one_eq_mod]
    omega
  unfold bits
  show IntKind.i64.wrap ((BitVec.ofInt 64 x &&& BitVec.ofInt 64 1048575).toNat : Int) = x
  rw [h, IntKind.wrap_i64]
  omega
def lowOf (n : Int) : Int := wrap64 (wrap32 (wrap32 n * 1048576) / 1048576)
def upOf (n : Int) : Int := wrap32 (wrap32 n - wrap32 (lowOf n)) % 4294967296 / 4096
theorem low_bd (n : Int) : -2048 ≤ lowOf n ∧ lowOf n ≤ 2047 ∧ (lowOf n - n) % 4096 = 0 := by
  unfold lowOf wrap64 wrap32
  omega
theorem up_bd (n : Int) : 0 ≤ upOf n ∧ upOf n < 1048576 := by
  unfold upOf
  omega
theorem parts (n : Int) : (upOf n * 4096 + lowOf n - n) % 4294967296 = 0 := by
  obtain ⟨h1, h2, h3⟩ := low_bd n
  unfold upOf
  generalize lowOf n = l at *
  unfold wrap32
  omega
set_option maxHeartbeats 1000000 in
theorem split_any (n : Int) (w : World) : Calls Try.prog 5 #[.int .i64 n] w fun e w' => e = .returned (.tuple #[.int .i64 (upOf n), .int .i64 (lowOf n)]) ∧ w = w' := by
  have hu := and20 (upOf n) (up_bd n).1 (up_bd n).2
  have HU := Lib.hid hu
  clear hu
  go_enter Try.func5, Try.ntmps5
  go_wp2
  go_ret2
  refine ⟨?_, rfl⟩
  show Ending.returned (.tuple #[.int .i64 (bits .and .i64 (upOf n) 1048575), .int .i64 (lowOf n)]) = _
  rw [HU.out]
set_option maxHeartbeats 1000000 in
theorem fits_any (l : Int) (h0 : -2048 ≤ l) (h1 : l ≤ 2047) (w : World) : Calls Try.prog 6 #[.int .i64 l, .bool false] w fun e w' => e = .returned (.bool true) ∧ w = w' := by
  have d0 : decide (-2048 ≤ l) = true := decide_eq_true h0
  have d1 : decide (l < 2048) = true := decide_eq_true (by omega)
  go_enter Try.func6, Try.ntmps6
  go_wp2
  go_ret
  exact ⟨rfl, rfl⟩
end Go.Proofs.Ythmdclgihgnjdaa
