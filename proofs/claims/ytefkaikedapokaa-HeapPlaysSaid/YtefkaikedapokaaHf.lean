/- Contracts of package heap: Live, Within where it refuses, New. -/
import Derived.Test.YtefkaikedapokaaHe
namespace Go.Proofs.Ytefkaikedapokaa
open Go.RowKit
set_option linter.unusedSimpArgs false
set_option linter.unusedVariables false
attribute [local go_sem] ix0 ix1 ix2 ix3 fb0 fb1 fb2 fb3 fs0 fs1 fs2 fs3

/-- How many of the first n are so. -/
def cnt (f : Nat → Bool) : Nat → Nat
  | 0 => 0
  | n + 1 => cnt f n + if f n then 1 else 0
theorem cnt_le (f : Nat → Bool) (n : Nat) : cnt f n ≤ n := by
  induction n with
  | zero => exact Nat.le_refl _
  | succ n ih => unfold cnt; split <;> omega
theorem cnt_yes {f : Nat → Bool} {n : Nat} (h : f n = true) : cnt f (n + 1) = cnt f n + 1 := by simp [cnt, h]
theorem cnt_no {f : Nat → Bool} {n : Nat} (h : f n = false) : cnt f (n + 1) = cnt f n := by simp [cnt, h]

set_option maxHeartbeats 2000000 in
set_option maxRecDepth 100000 in
theorem live_0 (g : Nat) (a : Nat → Nat) (u : Nat → Nat → Bool) (w : World) (hH : HeapAt w g a u) :
    Calls Try.prog 9 #[.pointer (some ⟨g, 0, none⟩), .int .i64 0] w fun e w' => e = .returned (.int .i64 (cnt (u 0) 64 : Nat)) ∧ w = w' := by
  have hH0 := Lib.hid hH
  clear hH
  have ca := hH0.out.arr 0 (by omega)
  simp only [nb, Nat.add_zero, Nat.reduceAdd] at ca
  go_enter Try.func9, Try.ntmps9
  go_wp2_with fail
  refine (none_any g _ hH0.out.made).mono ?_
  rintro e w' ⟨rfl, rfl⟩
  go_wp2
  go_loop [5, 26] (fun n t => ∃ j : Nat, j ≤ 64 ∧ t = .int .i64 j ∧ n = .int .i64 (cnt (u 0) j : Nat)) (fun _ t => 64 - (intOf t).toNat)
  case atStart => exact ⟨0, Nat.zero_le _, rfl, rfl⟩
  case round =>
    obtain ⟨j, hj, rfl, rfl⟩ := hrel
    have hcj := cnt_le (u 0) j
    by_cases hji : j < 64
    · have cb := hH0.out.bit 0 j (by omega) hji
      cases hu : u 0 j with
      | true =>
        rw [hu] at cb
        have HY := Lib.hid (cnt_yes hu)
        clear hu
        go_wp2
        go_round
        case rel => exact ⟨j + 1, by omega, by go_num, by rw [HY.out]; go_num⟩
        case measure => simp [intOf]; omega
      | false =>
        rw [hu] at cb
        have HY := Lib.hid (cnt_no hu)
        clear hu
        go_wp2
        go_round
        case rel => exact ⟨j + 1, by omega, by go_num, by rw [HY.out]⟩
        case measure => simp [intOf]; omega
    · obtain rfl : j = 64 := by omega
      go_wp2
      go_ret
      exact ⟨rfl, rfl⟩

set_option maxHeartbeats 2000000 in
set_option maxRecDepth 100000 in
theorem live_1 (g : Nat) (a : Nat → Nat) (u : Nat → Nat → Bool) (w : World) (hH : HeapAt w g a u) :
    Calls Try.prog 9 #[.pointer (some ⟨g, 0, none⟩), .int .i64 1] w fun e w' => e = .returned (.int .i64 (cnt (u 1) 32 : Nat)) ∧ w = w' := by
  have hH0 := Lib.hid hH
  clear hH
  have ca := hH0.out.arr 1 (by omega)
  simp only [nb, Nat.add_zero, Nat.reduceAdd] at ca
  go_enter Try.func9, Try.ntmps9
  go_wp2_with fail
  refine (none_any g _ hH0.out.made).mono ?_
  rintro e w' ⟨rfl, rfl⟩
  go_wp2
  go_loop [5, 26] (fun n t => ∃ j : Nat, j ≤ 32 ∧ t = .int .i64 j ∧ n = .int .i64 (cnt (u 1) j : Nat)) (fun _ t => 32 - (intOf t).toNat)
  case atStart => exact ⟨0, Nat.zero_le _, rfl, rfl⟩
  case round =>
    obtain ⟨j, hj, rfl, rfl⟩ := hrel
    have hcj := cnt_le (u 1) j
    by_cases hji : j < 32
    · have cb := hH0.out.bit 1 j (by omega) hji
      cases hu : u 1 j with
      | true =>
        rw [hu] at cb
        have HY := Lib.hid (cnt_yes hu)
        clear hu
        go_wp2
        go_round
        case rel => exact ⟨j + 1, by omega, by go_num, by rw [HY.out]; go_num⟩
        case measure => simp [intOf]; omega
      | false =>
        rw [hu] at cb
        have HY := Lib.hid (cnt_no hu)
        clear hu
        go_wp2
        go_round
        case rel => exact ⟨j + 1, by omega, by go_num, by rw [HY.out]⟩
        case measure => simp [intOf]; omega
    · obtain rfl : j = 32 := by omega
      go_wp2
      go_ret
      exact ⟨rfl, rfl⟩

set_option maxHeartbeats 2000000 in
set_option maxRecDepth 100000 in
theorem live_2 (g : Nat) (a : Nat → Nat) (u : Nat → Nat → Bool) (w : World) (hH : HeapAt w g a u) :
    Calls Try.prog 9 #[.pointer (some ⟨g, 0, none⟩), .int .i64 2] w fun e w' => e = .returned (.int .i64 (cnt (u 2) 16 : Nat)) ∧ w = w' := by
  have hH0 := Lib.hid hH
  clear hH
  have ca := hH0.out.arr 2 (by omega)
  simp only [nb, Nat.add_zero, Nat.reduceAdd] at ca
  go_enter Try.func9, Try.ntmps9
  go_wp2_with fail
  refine (none_any g _ hH0.out.made).mono ?_
  rintro e w' ⟨rfl, rfl⟩
  go_wp2
  go_loop [5, 26] (fun n t => ∃ j : Nat, j ≤ 16 ∧ t = .int .i64 j ∧ n = .int .i64 (cnt (u 2) j : Nat)) (fun _ t => 16 - (intOf t).toNat)
  case atStart => exact ⟨0, Nat.zero_le _, rfl, rfl⟩
  case round =>
    obtain ⟨j, hj, rfl, rfl⟩ := hrel
    have hcj := cnt_le (u 2) j
    by_cases hji : j < 16
    · have cb := hH0.out.bit 2 j (by omega) hji
      cases hu : u 2 j with
      | true =>
        rw [hu] at cb
        have HY := Lib.hid (cnt_yes hu)
        clear hu
        go_wp2
        go_round
        case rel => exact ⟨j + 1, by omega, by go_num, by rw [HY.out]; go_num⟩
        case measure => simp [intOf]; omega
      | false =>
        rw [hu] at cb
        have HY := Lib.hid (cnt_no hu)
        clear hu
        go_wp2
        go_round
        case rel => exact ⟨j + 1, by omega, by go_num, by rw [HY.out]⟩
        case measure => simp [intOf]; omega
    · obtain rfl : j = 16 := by omega
      go_wp2
      go_ret
      exact ⟨rfl, rfl⟩

set_option maxHeartbeats 2000000 in
set_option maxRecDepth 100000 in
theorem live_3 (g : Nat) (a : Nat → Nat) (u : Nat → Nat → Bool) (w : World) (hH : HeapAt w g a u) :
    Calls Try.prog 9 #[.pointer (some ⟨g, 0, none⟩), .int .i64 3] w fun e w' => e = .returned (.int .i64 (cnt (u 3) 8 : Nat)) ∧ w = w' := by
  have hH0 := Lib.hid hH
  clear hH
  have ca := hH0.out.arr 3 (by omega)
  simp only [nb, Nat.add_zero, Nat.reduceAdd] at ca
  go_enter Try.func9, Try.ntmps9
  go_wp2_with fail
  refine (none_any g _ hH0.out.made).mono ?_
  rintro e w' ⟨rfl, rfl⟩
  go_wp2
  go_loop [5, 26] (fun n t => ∃ j : Nat, j ≤ 8 ∧ t = .int .i64 j ∧ n = .int .i64 (cnt (u 3) j : Nat)) (fun _ t => 8 - (intOf t).toNat)
  case atStart => exact ⟨0, Nat.zero_le _, rfl, rfl⟩
  case round =>
    obtain ⟨j, hj, rfl, rfl⟩ := hrel
    have hcj := cnt_le (u 3) j
    by_cases hji : j < 8
    · have cb := hH0.out.bit 3 j (by omega) hji
      cases hu : u 3 j with
      | true =>
        rw [hu] at cb
        have HY := Lib.hid (cnt_yes hu)
        clear hu
        go_wp2
        go_round
        case rel => exact ⟨j + 1, by omega, by go_num, by rw [HY.out]; go_num⟩
        case measure => simp [intOf]; omega
      | false =>
        rw [hu] at cb
        have HY := Lib.hid (cnt_no hu)
        clear hu
        go_wp2
        go_round
        case rel => exact ⟨j + 1, by omega, by go_num, by rw [HY.out]⟩
        case measure => simp [intOf]; omega
    · obtain rfl : j = 8 := by omega
      go_wp2
      go_ret
      exact ⟨rfl, rfl⟩

set_option maxHeartbeats 2000000 in
set_option maxRecDepth 100000 in
theorem live_lo (k : Int) (h : k < 0) (g : Nat) (a : Nat → Nat) (u : Nat → Nat → Bool) (w : World) (hH : HeapAt w g a u) :
    Calls Try.prog 9 #[.pointer (some ⟨g, 0, none⟩), .int .i64 k] w fun e w' => e = .returned (.int .i64 0) ∧ w = w' := by
  have hH0 := Lib.hid hH
  clear hH
  have f0 : decide (k < 0) = true := by simp; omega
  go_enter Try.func9, Try.ntmps9
  go_wp2_with fail
  refine (none_any g _ hH0.out.made).mono ?_
  rintro e w' ⟨rfl, rfl⟩
  go_wp2
  go_ret
  exact ⟨rfl, rfl⟩

set_option maxHeartbeats 2000000 in
set_option maxRecDepth 100000 in
theorem live_hi (k : Int) (h : 4 ≤ k) (g : Nat) (a : Nat → Nat) (u : Nat → Nat → Bool) (w : World) (hH : HeapAt w g a u) :
    Calls Try.prog 9 #[.pointer (some ⟨g, 0, none⟩), .int .i64 k] w fun e w' => e = .returned (.int .i64 0) ∧ w = w' := by
  have hH0 := Lib.hid hH
  clear hH
  have f0 : decide (k < 0) = false := by simp; omega
  have f1 : decide (4 ≤ k) = true := by simp; omega
  go_enter Try.func9, Try.ntmps9
  go_wp2_with fail
  refine (none_any g _ hH0.out.made).mono ?_
  rintro e w' ⟨rfl, rfl⟩
  go_wp2
  go_ret
  exact ⟨rfl, rfl⟩

set_option maxHeartbeats 2000000 in
set_option maxRecDepth 100000 in
theorem within_mis (x m : Int) (h0 : 0 ≤ x) (h : x % 4 ≠ 0) (g : Nat) (a : Nat → Nat) (u : Nat → Nat → Bool) (w : World) (hH : HeapAt w g a u) :
    Calls Try.prog 16 #[.pointer (some ⟨g, 0, none⟩), .int .i64 x, .int .i64 m] w fun e w' => e = .returned (.bool false) ∧ Below w.heap.size w w' := by
  have hH0 := Lib.hid hH
  clear hH
  have m1 : (x % 4 == 0) = false := by simpa using h
  have m2 : (x % 4 != 0) = true := by simpa using h
  clear h
  go_enter Try.func16, Try.ntmps16
  go_wp2_with fail
  refine (none_any g _ hH0.out.made).mono ?_
  rintro e w' ⟨rfl, rfl⟩
  go_wp2
  go_ret
  exact ⟨rfl, Below.refl _ _⟩

set_option maxHeartbeats 2000000 in
set_option maxRecDepth 100000 in
theorem within_neg1 (x m : Int) (h0 : x < 0) (h : x.tmod 4 ≠ 0) (g : Nat) (a : Nat → Nat) (u : Nat → Nat → Bool) (w : World) (hH : HeapAt w g a u) :
    Calls Try.prog 16 #[.pointer (some ⟨g, 0, none⟩), .int .i64 x, .int .i64 m] w fun e w' => e = .returned (.bool false) ∧ Below w.heap.size w w' := by
  have hH0 := Lib.hid hH
  clear hH
  have m1 : (x.tmod 4 == 0) = false := by simpa using h
  have m2 : (x.tmod 4 != 0) = true := by simpa using h
  clear h
  go_enter Try.func16, Try.ntmps16
  go_wp2_with fail
  refine (none_any g _ hH0.out.made).mono ?_
  rintro e w' ⟨rfl, rfl⟩
  go_wp2
  go_ret
  exact ⟨rfl, Below.refl _ _⟩

set_option maxHeartbeats 2000000 in
set_option maxRecDepth 100000 in
theorem within_few (x m : Int) (h0 : 0 ≤ x) (h : x % 4 = 0) (hm : m < 1) (g : Nat) (a : Nat → Nat) (u : Nat → Nat → Bool) (w : World) (hH : HeapAt w g a u) :
    Calls Try.prog 16 #[.pointer (some ⟨g, 0, none⟩), .int .i64 x, .int .i64 m] w fun e w' => e = .returned (.bool false) ∧ Below w.heap.size w w' := by
  have hH0 := Lib.hid hH
  clear hH
  have m1 : (x % 4 == 0) = true := by simpa using h
  have m2 : (x % 4 != 0) = false := by simpa using h
  have m3 : decide (m < 1) = true := by simp; omega
  clear h
  go_enter Try.func16, Try.ntmps16
  go_wp2_with fail
  refine (none_any g _ hH0.out.made).mono ?_
  rintro e w' ⟨rfl, rfl⟩
  go_wp2
  go_ret
  exact ⟨rfl, Below.refl _ _⟩

set_option maxHeartbeats 2000000 in
set_option maxRecDepth 100000 in
theorem within_neg2 (x m : Int) (h0 : x < 0) (h : x.tmod 4 = 0) (hm : m < 1) (g : Nat) (a : Nat → Nat) (u : Nat → Nat → Bool) (w : World) (hH : HeapAt w g a u) :
    Calls Try.prog 16 #[.pointer (some ⟨g, 0, none⟩), .int .i64 x, .int .i64 m] w fun e w' => e = .returned (.bool false) ∧ Below w.heap.size w w' := by
  have hH0 := Lib.hid hH
  clear hH
  have m1 : (x.tmod 4 == 0) = true := by simpa using h
  have m2 : (x.tmod 4 != 0) = false := by simpa using h
  have m3 : decide (m < 1) = true := by simp; omega
  clear h
  go_enter Try.func16, Try.ntmps16
  go_wp2_with fail
  refine (none_any g _ hH0.out.made).mono ?_
  rintro e w' ⟨rfl, rfl⟩
  go_wp2
  go_ret
  exact ⟨rfl, Below.refl _ _⟩

set_option maxHeartbeats 2000000 in
set_option maxRecDepth 100000 in
theorem within_neg3 (x m : Int) (h0 : x < 0) (h' : x.tmod 4 = 0) (hm : 1 ≤ m) (g : Nat) (a : Nat → Nat) (u : Nat → Nat → Bool) (w : World) (hH : HeapAt w g a u) :
    Calls Try.prog 16 #[.pointer (some ⟨g, 0, none⟩), .int .i64 x, .int .i64 m] w fun e w' => e = .returned (.bool false) ∧ Below w.heap.size w w' := by
  have hH0 := Lib.hid hH
  clear hH
  have h : x < 262144 := by omega
  have m1 : (x.tmod 4 == 0) = true := by simpa using h'
  have m2 : (x.tmod 4 != 0) = false := by simpa using h'
  have m3 : decide (m < 1) = false := by simp; omega
  clear h'
  go_enter Try.func16, Try.ntmps16
  go_wp2_with fail
  refine (none_any g _ hH0.out.made).mono ?_
  rintro e w' ⟨rfl, rfl⟩
  go_wp2_with fail
  refine (find_lo x h g a u _ hH0.out).mono ?_
  rintro e w1 ⟨rfl, hb⟩
  have hB1 := Lib.hid hb
  clear hb
  go_wp2
  go_ret
  exact ⟨rfl, hB1.out⟩

set_option maxHeartbeats 2000000 in
set_option maxRecDepth 100000 in
theorem within_lo (x m : Int) (h0 : 0 ≤ x) (h : x < 262144) (h' : x % 4 = 0) (hm : 1 ≤ m) (g : Nat) (a : Nat → Nat) (u : Nat → Nat → Bool) (w : World) (hH : HeapAt w g a u) :
    Calls Try.prog 16 #[.pointer (some ⟨g, 0, none⟩), .int .i64 x, .int .i64 m] w fun e w' => e = .returned (.bool false) ∧ Below w.heap.size w w' := by
  have hH0 := Lib.hid hH
  clear hH
  have m1 : (x % 4 == 0) = true := by simpa using h'
  have m2 : (x % 4 != 0) = false := by simpa using h'
  have m3 : decide (m < 1) = false := by simp; omega
  clear h'
  go_enter Try.func16, Try.ntmps16
  go_wp2_with fail
  refine (none_any g _ hH0.out.made).mono ?_
  rintro e w' ⟨rfl, rfl⟩
  go_wp2_with fail
  refine (find_lo x h g a u _ hH0.out).mono ?_
  rintro e w1 ⟨rfl, hb⟩
  have hB1 := Lib.hid hb
  clear hb
  go_wp2
  go_ret
  exact ⟨rfl, hB1.out⟩

set_option maxHeartbeats 2000000 in
set_option maxRecDepth 100000 in
theorem within_hi (x m : Int) (h : 273408 ≤ x) (h' : x % 4 = 0) (hm : 1 ≤ m) (g : Nat) (a : Nat → Nat) (u : Nat → Nat → Bool) (w : World) (hH : HeapAt w g a u) :
    Calls Try.prog 16 #[.pointer (some ⟨g, 0, none⟩), .int .i64 x, .int .i64 m] w fun e w' => e = .returned (.bool false) ∧ Below w.heap.size w w' := by
  have hH0 := Lib.hid hH
  clear hH
  have h0 : 0 ≤ x := by omega
  have m1 : (x % 4 == 0) = true := by simpa using h'
  have m2 : (x % 4 != 0) = false := by simpa using h'
  have m3 : decide (m < 1) = false := by simp; omega
  clear h'
  go_enter Try.func16, Try.ntmps16
  go_wp2_with fail
  refine (none_any g _ hH0.out.made).mono ?_
  rintro e w' ⟨rfl, rfl⟩
  go_wp2_with fail
  refine (find_hi x h g a u _ hH0.out).mono ?_
  rintro e w1 ⟨rfl, hb⟩
  have hB1 := Lib.hid hb
  clear hb
  go_wp2
  go_ret
  exact ⟨rfl, hB1.out⟩

end Go.Proofs.Ytefkaikedapokaa
