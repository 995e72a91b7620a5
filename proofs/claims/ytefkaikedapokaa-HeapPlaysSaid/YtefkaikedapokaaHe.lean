/- Contracts of package heap: Free, Live, Within. -/
import Derived.Test.YtefkaikedapokaaHd
namespace Go.Proofs.Ytefkaikedapokaa
open Go.RowKit
set_option linter.unusedSimpArgs false
attribute [local go_sem] ix0 ix1 ix2 ix3 fb0 fb1 fb2 fb3 fs0 fs1 fs2 fs3

theorem findN_0 (x : Int) (i : Nat) (r : Int) (b : Bool) (hx : x = 262144 + 16 * i + r) (hi : i < 64) (h0 : 0 ≤ r) (h1 : r < 16) (g : Nat) (a : Nat → Nat) (u : Nat → Nat → Bool) (w : World) (hH : HeapAt w g a u) (hu : u 0 i = b) :
    Calls Try.prog 20 #[.pointer (some ⟨g, 0, none⟩), .int .i64 x] w fun e w' => e = .returned (.tuple #[.int .i64 0, .int .i64 (i : Int), .int .i64 r, .bool b]) ∧ Below w.heap.size w w' := by
  have e1 : (x - 262144) / 16 = (i : Int) := by omega
  have e2 : (x - 262144) % 16 = r := by omega
  have H := find_0 x (by omega) (by omega) g a u w hH
  rw [e1, e2, Int.toNat_natCast, hu] at H
  exact H
theorem findN_1 (x : Int) (i : Nat) (r : Int) (b : Bool) (hx : x = 263168 + 64 * i + r) (hi : i < 32) (h0 : 0 ≤ r) (h1 : r < 64) (g : Nat) (a : Nat → Nat) (u : Nat → Nat → Bool) (w : World) (hH : HeapAt w g a u) (hu : u 1 i = b) :
    Calls Try.prog 20 #[.pointer (some ⟨g, 0, none⟩), .int .i64 x] w fun e w' => e = .returned (.tuple #[.int .i64 1, .int .i64 (i : Int), .int .i64 r, .bool b]) ∧ Below w.heap.size w w' := by
  have e1 : (x - 263168) / 64 = (i : Int) := by omega
  have e2 : (x - 263168) % 64 = r := by omega
  have H := find_1 x (by omega) (by omega) g a u w hH
  rw [e1, e2, Int.toNat_natCast, hu] at H
  exact H
theorem findN_2 (x : Int) (i : Nat) (r : Int) (b : Bool) (hx : x = 265216 + 256 * i + r) (hi : i < 16) (h0 : 0 ≤ r) (h1 : r < 256) (g : Nat) (a : Nat → Nat) (u : Nat → Nat → Bool) (w : World) (hH : HeapAt w g a u) (hu : u 2 i = b) :
    Calls Try.prog 20 #[.pointer (some ⟨g, 0, none⟩), .int .i64 x] w fun e w' => e = .returned (.tuple #[.int .i64 2, .int .i64 (i : Int), .int .i64 r, .bool b]) ∧ Below w.heap.size w w' := by
  have e1 : (x - 265216) / 256 = (i : Int) := by omega
  have e2 : (x - 265216) % 256 = r := by omega
  have H := find_2 x (by omega) (by omega) g a u w hH
  rw [e1, e2, Int.toNat_natCast, hu] at H
  exact H
theorem findN_3 (x : Int) (i : Nat) (r : Int) (b : Bool) (hx : x = 269312 + 512 * i + r) (hi : i < 8) (h0 : 0 ≤ r) (h1 : r < 512) (g : Nat) (a : Nat → Nat) (u : Nat → Nat → Bool) (w : World) (hH : HeapAt w g a u) (hu : u 3 i = b) :
    Calls Try.prog 20 #[.pointer (some ⟨g, 0, none⟩), .int .i64 x] w fun e w' => e = .returned (.tuple #[.int .i64 3, .int .i64 (i : Int), .int .i64 r, .bool b]) ∧ Below w.heap.size w w' := by
  have e1 : (x - 269312) / 512 = (i : Int) := by omega
  have e2 : (x - 269312) % 512 = r := by omega
  have H := find_3 x (by omega) (by omega) g a u w hH
  rw [e1, e2, Int.toNat_natCast, hu] at H
  exact H
set_option maxHeartbeats 2000000 in
set_option maxRecDepth 100000 in
theorem free_ok_0 (x : Int) (i : Nat) (hx : x = 262144 + 16 * i) (hi : i < 64) (g : Nat) (a : Nat → Nat) (u : Nat → Nat → Bool) (w : World) (hH : HeapAt w g a u) (hu : u 0 i = true) :
    Calls Try.prog 10 #[.pointer (some ⟨g, 0, none⟩), .int .i64 x] w fun e w' => e = .returned (.int .i64 0) ∧ HeapAt w' g a (upd u 0 i false) ∧ Hb a w w' := by
  have hH0 := Lib.hid hH
  clear hH
  have HX := Lib.hid hx
  have HU := Lib.hid hu
  clear hx hu
  go_enter Try.func10, Try.ntmps10
  go_wp2_with fail
  refine (none_any g _ hH0.out.made).mono ?_
  rintro e w' ⟨rfl, rfl⟩
  go_wp2_with fail
  refine (findN_0 x i 0 true (by have := HX.out; omega) hi (by omega) (by omega) g a u _ hH0.out HU.out).mono ?_
  rintro e w1 ⟨rfl, hb⟩
  have hH1 := Lib.hid (hH0.out.below hb)
  have hB1 := Lib.hid (Hb.of_below (a := a) hb)
  clear hb
  have ca := hH1.out.arr 0 (by omega)
  simp only [nb, Nat.add_zero, Nat.reduceAdd] at ca
  have cb := hH1.out.bit 0 i (by omega) hi
  have cf := hH1.out.frz 0 i (by omega) hi
  go_wp2
  go_ret
  exact ⟨rfl, hH1.out.set (by omega) hi false, hB1.out.trans (Hb.set (by omega))⟩

set_option maxHeartbeats 2000000 in
set_option maxRecDepth 100000 in
theorem free_no_0 (x : Int) (i : Nat) (r : Int) (hx : x = 262144 + 16 * i + r) (hi : i < 64) (h0 : 0 ≤ r) (h1 : r < 16) (g : Nat) (a : Nat → Nat) (u : Nat → Nat → Bool) (w : World) (hH : HeapAt w g a u) (hu : u 0 i = false)  :
    Calls Try.prog 10 #[.pointer (some ⟨g, 0, none⟩), .int .i64 x] w fun e w' => e = .returned (.int .i64 13) ∧ Below w.heap.size w w' := by
  have hH0 := Lib.hid hH
  clear hH
  have HX := Lib.hid hx
  have HU := Lib.hid hu
  clear hx hu
  go_enter Try.func10, Try.ntmps10
  go_wp2_with fail
  refine (none_any g _ hH0.out.made).mono ?_
  rintro e w' ⟨rfl, rfl⟩
  go_wp2_with fail
  refine (findN_0 x i r false HX.out hi h0 h1 g a u _ hH0.out HU.out).mono ?_
  rintro e w1 ⟨rfl, hb⟩
  have hB1 := Lib.hid hb
  clear hb
  go_wp2
  go_ret
  exact ⟨rfl, hB1.out⟩

set_option maxHeartbeats 2000000 in
set_option maxRecDepth 100000 in
theorem free_off_0 (x : Int) (i : Nat) (r : Int) (hx : x = 262144 + 16 * i + r) (hi : i < 64) (h0 : 0 ≤ r) (h1 : r < 16) (g : Nat) (a : Nat → Nat) (u : Nat → Nat → Bool) (w : World) (hH : HeapAt w g a u) (hu : u 0 i = true) (hr : r ≠ 0) :
    Calls Try.prog 10 #[.pointer (some ⟨g, 0, none⟩), .int .i64 x] w fun e w' => e = .returned (.int .i64 13) ∧ Below w.heap.size w w' := by
  have hH0 := Lib.hid hH
  clear hH
  have HX := Lib.hid hx
  have HU := Lib.hid hu
  clear hx hu
  have r1 : (r != 0) = true := by simpa using hr
  have r2 : (r == 0) = false := by simpa using hr
  clear hr
  go_enter Try.func10, Try.ntmps10
  go_wp2_with fail
  refine (none_any g _ hH0.out.made).mono ?_
  rintro e w' ⟨rfl, rfl⟩
  go_wp2_with fail
  refine (findN_0 x i r true HX.out hi h0 h1 g a u _ hH0.out HU.out).mono ?_
  rintro e w1 ⟨rfl, hb⟩
  have hB1 := Lib.hid hb
  clear hb
  go_wp2
  go_ret
  exact ⟨rfl, hB1.out⟩

set_option maxHeartbeats 2000000 in
set_option maxRecDepth 100000 in
theorem within_no_0 (x : Int) (i : Nat) (r : Int) (hx : x = 262144 + 16 * i + r) (hi : i < 64) (h0 : 0 ≤ r) (h1 : r < 16) (m : Int) (h4 : x % 4 = 0) (hm : 1 ≤ m) (g : Nat) (a : Nat → Nat) (u : Nat → Nat → Bool) (w : World) (hH : HeapAt w g a u) (hu : u 0 i = false) :
    Calls Try.prog 16 #[.pointer (some ⟨g, 0, none⟩), .int .i64 x, .int .i64 m] w fun e w' => e = .returned (.bool false) ∧ Below w.heap.size w w' := by
  have hH0 := Lib.hid hH
  clear hH
  have HX := Lib.hid hx
  have HU := Lib.hid hu
  clear hx hu
  have x0 : 0 ≤ x := by have := HX.out; omega
  have m1 : (x % 4 == 0) = true := by simpa using h4
  have m2 : (x % 4 != 0) = false := by simpa using h4
  have m3 : decide (m < 1) = false := by simp; omega
  have q0 : 0 ≤ r / 4 := by omega
  have q1 : r / 4 < 4 := by omega
  clear h4
  go_enter Try.func16, Try.ntmps16
  go_wp2_with fail
  refine (none_any g _ hH0.out.made).mono ?_
  rintro e w' ⟨rfl, rfl⟩
  go_wp2_with fail
  refine (findN_0 x i r false HX.out hi h0 h1 g a u _ hH0.out HU.out).mono ?_
  rintro e w1 ⟨rfl, hb⟩
  have hB1 := Lib.hid hb
  clear hb
  go_wp2
  go_ret
  exact ⟨rfl, hB1.out⟩

set_option maxHeartbeats 2000000 in
set_option maxRecDepth 100000 in
theorem within_is_0 (x : Int) (i : Nat) (r : Int) (hx : x = 262144 + 16 * i + r) (hi : i < 64) (h0 : 0 ≤ r) (h1 : r < 16) (m : Int) (h4 : x % 4 = 0) (hm : 1 ≤ m) (g : Nat) (a : Nat → Nat) (u : Nat → Nat → Bool) (w : World) (hH : HeapAt w g a u) (hu : u 0 i = true) :
    Calls Try.prog 16 #[.pointer (some ⟨g, 0, none⟩), .int .i64 x, .int .i64 m] w fun e w' => e = .returned (.bool (decide (m ≤ 4 - r / 4))) ∧ Below w.heap.size w w' := by
  have hH0 := Lib.hid hH
  clear hH
  have HX := Lib.hid hx
  have HU := Lib.hid hu
  clear hx hu
  have x0 : 0 ≤ x := by have := HX.out; omega
  have m1 : (x % 4 == 0) = true := by simpa using h4
  have m2 : (x % 4 != 0) = false := by simpa using h4
  have m3 : decide (m < 1) = false := by simp; omega
  have q0 : 0 ≤ r / 4 := by omega
  have q1 : r / 4 < 4 := by omega
  clear h4
  go_enter Try.func16, Try.ntmps16
  go_wp2_with fail
  refine (none_any g _ hH0.out.made).mono ?_
  rintro e w' ⟨rfl, rfl⟩
  go_wp2_with fail
  refine (findN_0 x i r true HX.out hi h0 h1 g a u _ hH0.out HU.out).mono ?_
  rintro e w1 ⟨rfl, hb⟩
  have hB1 := Lib.hid hb
  clear hb
  go_wp2_with fail
  refine (all_any _).mono ?_
  rintro e w2 ⟨rfl, hb2⟩
  go_wp2
  go_ret
  exact ⟨rfl, bl_then hB1.out hb2⟩

set_option maxHeartbeats 2000000 in
set_option maxRecDepth 100000 in
theorem free_ok_1 (x : Int) (i : Nat) (hx : x = 263168 + 64 * i) (hi : i < 32) (g : Nat) (a : Nat → Nat) (u : Nat → Nat → Bool) (w : World) (hH : HeapAt w g a u) (hu : u 1 i = true) :
    Calls Try.prog 10 #[.pointer (some ⟨g, 0, none⟩), .int .i64 x] w fun e w' => e = .returned (.int .i64 0) ∧ HeapAt w' g a (upd u 1 i false) ∧ Hb a w w' := by
  have hH0 := Lib.hid hH
  clear hH
  have HX := Lib.hid hx
  have HU := Lib.hid hu
  clear hx hu
  go_enter Try.func10, Try.ntmps10
  go_wp2_with fail
  refine (none_any g _ hH0.out.made).mono ?_
  rintro e w' ⟨rfl, rfl⟩
  go_wp2_with fail
  refine (findN_1 x i 0 true (by have := HX.out; omega) hi (by omega) (by omega) g a u _ hH0.out HU.out).mono ?_
  rintro e w1 ⟨rfl, hb⟩
  have hH1 := Lib.hid (hH0.out.below hb)
  have hB1 := Lib.hid (Hb.of_below (a := a) hb)
  clear hb
  have ca := hH1.out.arr 1 (by omega)
  simp only [nb, Nat.add_zero, Nat.reduceAdd] at ca
  have cb := hH1.out.bit 1 i (by omega) hi
  have cf := hH1.out.frz 1 i (by omega) hi
  go_wp2
  go_ret
  exact ⟨rfl, hH1.out.set (by omega) hi false, hB1.out.trans (Hb.set (by omega))⟩

set_option maxHeartbeats 2000000 in
set_option maxRecDepth 100000 in
theorem free_no_1 (x : Int) (i : Nat) (r : Int) (hx : x = 263168 + 64 * i + r) (hi : i < 32) (h0 : 0 ≤ r) (h1 : r < 64) (g : Nat) (a : Nat → Nat) (u : Nat → Nat → Bool) (w : World) (hH : HeapAt w g a u) (hu : u 1 i = false)  :
    Calls Try.prog 10 #[.pointer (some ⟨g, 0, none⟩), .int .i64 x] w fun e w' => e = .returned (.int .i64 13) ∧ Below w.heap.size w w' := by
  have hH0 := Lib.hid hH
  clear hH
  have HX := Lib.hid hx
  have HU := Lib.hid hu
  clear hx hu
  go_enter Try.func10, Try.ntmps10
  go_wp2_with fail
  refine (none_any g _ hH0.out.made).mono ?_
  rintro e w' ⟨rfl, rfl⟩
  go_wp2_with fail
  refine (findN_1 x i r false HX.out hi h0 h1 g a u _ hH0.out HU.out).mono ?_
  rintro e w1 ⟨rfl, hb⟩
  have hB1 := Lib.hid hb
  clear hb
  go_wp2
  go_ret
  exact ⟨rfl, hB1.out⟩

set_option maxHeartbeats 2000000 in
set_option maxRecDepth 100000 in
theorem free_off_1 (x : Int) (i : Nat) (r : Int) (hx : x = 263168 + 64 * i + r) (hi : i < 32) (h0 : 0 ≤ r) (h1 : r < 64) (g : Nat) (a : Nat → Nat) (u : Nat → Nat → Bool) (w : World) (hH : HeapAt w g a u) (hu : u 1 i = true) (hr : r ≠ 0) :
    Calls Try.prog 10 #[.pointer (some ⟨g, 0, none⟩), .int .i64 x] w fun e w' => e = .returned (.int .i64 13) ∧ Below w.heap.size w w' := by
  have hH0 := Lib.hid hH
  clear hH
  have HX := Lib.hid hx
  have HU := Lib.hid hu
  clear hx hu
  have r1 : (r != 0) = true := by simpa using hr
  have r2 : (r == 0) = false := by simpa using hr
  clear hr
  go_enter Try.func10, Try.ntmps10
  go_wp2_with fail
  refine (none_any g _ hH0.out.made).mono ?_
  rintro e w' ⟨rfl, rfl⟩
  go_wp2_with fail
  refine (findN_1 x i r true HX.out hi h0 h1 g a u _ hH0.out HU.out).mono ?_
  rintro e w1 ⟨rfl, hb⟩
  have hB1 := Lib.hid hb
  clear hb
  go_wp2
  go_ret
  exact ⟨rfl, hB1.out⟩

set_option maxHeartbeats 2000000 in
set_option maxRecDepth 100000 in
theorem within_no_1 (x : Int) (i : Nat) (r : Int) (hx : x = 263168 + 64 * i + r) (hi : i < 32) (h0 : 0 ≤ r) (h1 : r < 64) (m : Int) (h4 : x % 4 = 0) (hm : 1 ≤ m) (g : Nat) (a : Nat → Nat) (u : Nat → Nat → Bool) (w : World) (hH : HeapAt w g a u) (hu : u 1 i = false) :
    Calls Try.prog 16 #[.pointer (some ⟨g, 0, none⟩), .int .i64 x, .int .i64 m] w fun e w' => e = .returned (.bool false) ∧ Below w.heap.size w w' := by
  have hH0 := Lib.hid hH
  clear hH
  have HX := Lib.hid hx
  have HU := Lib.hid hu
  clear hx hu
  have x0 : 0 ≤ x := by have := HX.out; omega
  have m1 : (x % 4 == 0) = true := by simpa using h4
  have m2 : (x % 4 != 0) = false := by simpa using h4
  have m3 : decide (m < 1) = false := by simp; omega
  have q0 : 0 ≤ r / 4 := by omega
  have q1 : r / 4 < 16 := by omega
  clear h4
  go_enter Try.func16, Try.ntmps16
  go_wp2_with fail
  refine (none_any g _ hH0.out.made).mono ?_
  rintro e w' ⟨rfl, rfl⟩
  go_wp2_with fail
  refine (findN_1 x i r false HX.out hi h0 h1 g a u _ hH0.out HU.out).mono ?_
  rintro e w1 ⟨rfl, hb⟩
  have hB1 := Lib.hid hb
  clear hb
  go_wp2
  go_ret
  exact ⟨rfl, hB1.out⟩

set_option maxHeartbeats 2000000 in
set_option maxRecDepth 100000 in
theorem within_is_1 (x : Int) (i : Nat) (r : Int) (hx : x = 263168 + 64 * i + r) (hi : i < 32) (h0 : 0 ≤ r) (h1 : r < 64) (m : Int) (h4 : x % 4 = 0) (hm : 1 ≤ m) (g : Nat) (a : Nat → Nat) (u : Nat → Nat → Bool) (w : World) (hH : HeapAt w g a u) (hu : u 1 i = true) :
    Calls Try.prog 16 #[.pointer (some ⟨g, 0, none⟩), .int .i64 x, .int .i64 m] w fun e w' => e = .returned (.bool (decide (m ≤ 16 - r / 4))) ∧ Below w.heap.size w w' := by
  have hH0 := Lib.hid hH
  clear hH
  have HX := Lib.hid hx
  have HU := Lib.hid hu
  clear hx hu
  have x0 : 0 ≤ x := by have := HX.out; omega
  have m1 : (x % 4 == 0) = true := by simpa using h4
  have m2 : (x % 4 != 0) = false := by simpa using h4
  have m3 : decide (m < 1) = false := by simp; omega
  have q0 : 0 ≤ r / 4 := by omega
  have q1 : r / 4 < 16 := by omega
  clear h4
  go_enter Try.func16, Try.ntmps16
  go_wp2_with fail
  refine (none_any g _ hH0.out.made).mono ?_
  rintro e w' ⟨rfl, rfl⟩
  go_wp2_with fail
  refine (findN_1 x i r true HX.out hi h0 h1 g a u _ hH0.out HU.out).mono ?_
  rintro e w1 ⟨rfl, hb⟩
  have hB1 := Lib.hid hb
  clear hb
  go_wp2_with fail
  refine (all_any _).mono ?_
  rintro e w2 ⟨rfl, hb2⟩
  go_wp2
  go_ret
  exact ⟨rfl, bl_then hB1.out hb2⟩

set_option maxHeartbeats 2000000 in
set_option maxRecDepth 100000 in
theorem free_ok_2 (x : Int) (i : Nat) (hx : x = 265216 + 256 * i) (hi : i < 16) (g : Nat) (a : Nat → Nat) (u : Nat → Nat → Bool) (w : World) (hH : HeapAt w g a u) (hu : u 2 i = true) :
    Calls Try.prog 10 #[.pointer (some ⟨g, 0, none⟩), .int .i64 x] w fun e w' => e = .returned (.int .i64 0) ∧ HeapAt w' g a (upd u 2 i false) ∧ Hb a w w' := by
  have hH0 := Lib.hid hH
  clear hH
  have HX := Lib.hid hx
  have HU := Lib.hid hu
  clear hx hu
  go_enter Try.func10, Try.ntmps10
  go_wp2_with fail
  refine (none_any g _ hH0.out.made).mono ?_
  rintro e w' ⟨rfl, rfl⟩
  go_wp2_with fail
  refine (findN_2 x i 0 true (by have := HX.out; omega) hi (by omega) (by omega) g a u _ hH0.out HU.out).mono ?_
  rintro e w1 ⟨rfl, hb⟩
  have hH1 := Lib.hid (hH0.out.below hb)
  have hB1 := Lib.hid (Hb.of_below (a := a) hb)
  clear hb
  have ca := hH1.out.arr 2 (by omega)
  simp only [nb, Nat.add_zero, Nat.reduceAdd] at ca
  have cb := hH1.out.bit 2 i (by omega) hi
  have cf := hH1.out.frz 2 i (by omega) hi
  go_wp2
  go_ret
  exact ⟨rfl, hH1.out.set (by omega) hi false, hB1.out.trans (Hb.set (by omega))⟩

set_option maxHeartbeats 2000000 in
set_option maxRecDepth 100000 in
theorem free_no_2 (x : Int) (i : Nat) (r : Int) (hx : x = 265216 + 256 * i + r) (hi : i < 16) (h0 : 0 ≤ r) (h1 : r < 256) (g : Nat) (a : Nat → Nat) (u : Nat → Nat → Bool) (w : World) (hH : HeapAt w g a u) (hu : u 2 i = false)  :
    Calls Try.prog 10 #[.pointer (some ⟨g, 0, none⟩), .int .i64 x] w fun e w' => e = .returned (.int .i64 13) ∧ Below w.heap.size w w' := by
  have hH0 := Lib.hid hH
  clear hH
  have HX := Lib.hid hx
  have HU := Lib.hid hu
  clear hx hu
  go_enter Try.func10, Try.ntmps10
  go_wp2_with fail
  refine (none_any g _ hH0.out.made).mono ?_
  rintro e w' ⟨rfl, rfl⟩
  go_wp2_with fail
  refine (findN_2 x i r false HX.out hi h0 h1 g a u _ hH0.out HU.out).mono ?_
  rintro e w1 ⟨rfl, hb⟩
  have hB1 := Lib.hid hb
  clear hb
  go_wp2
  go_ret
  exact ⟨rfl, hB1.out⟩

set_option maxHeartbeats 2000000 in
set_option maxRecDepth 100000 in
theorem free_off_2 (x : Int) (i : Nat) (r : Int) (hx : x = 265216 + 256 * i + r) (hi : i < 16) (h0 : 0 ≤ r) (h1 : r < 256) (g : Nat) (a : Nat → Nat) (u : Nat → Nat → Bool) (w : World) (hH : HeapAt w g a u) (hu : u 2 i = true) (hr : r ≠ 0) :
    Calls Try.prog 10 #[.pointer (some ⟨g, 0, none⟩), .int .i64 x] w fun e w' => e = .returned (.int .i64 13) ∧ Below w.heap.size w w' := by
  have hH0 := Lib.hid hH
  clear hH
  have HX := Lib.hid hx
  have HU := Lib.hid hu
  clear hx hu
  have r1 : (r != 0) = true := by simpa using hr
  have r2 : (r == 0) = false := by simpa using hr
  clear hr
  go_enter Try.func10, Try.ntmps10
  go_wp2_with fail
  refine (none_any g _ hH0.out.made).mono ?_
  rintro e w' ⟨rfl, rfl⟩
  go_wp2_with fail
  refine (findN_2 x i r true HX.out hi h0 h1 g a u _ hH0.out HU.out).mono ?_
  rintro e w1 ⟨rfl, hb⟩
  have hB1 := Lib.hid hb
  clear hb
  go_wp2
  go_ret
  exact ⟨rfl, hB1.out⟩

set_option maxHeartbeats 2000000 in
set_option maxRecDepth 100000 in
theorem within_no_2 (x : Int) (i : Nat) (r : Int) (hx : x = 265216 + 256 * i + r) (hi : i < 16) (h0 : 0 ≤ r) (h1 : r < 256) (m : Int) (h4 : x % 4 = 0) (hm : 1 ≤ m) (g : Nat) (a : Nat → Nat) (u : Nat → Nat → Bool) (w : World) (hH : HeapAt w g a u) (hu : u 2 i = false) :
    Calls Try.prog 16 #[.pointer (some ⟨g, 0, none⟩), .int .i64 x, .int .i64 m] w fun e w' => e = .returned (.bool false) ∧ Below w.heap.size w w' := by
  have hH0 := Lib.hid hH
  clear hH
  have HX := Lib.hid hx
  have HU := Lib.hid hu
  clear hx hu
  have x0 : 0 ≤ x := by have := HX.out; omega
  have m1 : (x % 4 == 0) = true := by simpa using h4
  have m2 : (x % 4 != 0) = false := by simpa using h4
  have m3 : decide (m < 1) = false := by simp; omega
  have q0 : 0 ≤ r / 4 := by omega
  have q1 : r / 4 < 64 := by omega
  clear h4
  go_enter Try.func16, Try.ntmps16
  go_wp2_with fail
  refine (none_any g _ hH0.out.made).mono ?_
  rintro e w' ⟨rfl, rfl⟩
  go_wp2_with fail
  refine (findN_2 x i r false HX.out hi h0 h1 g a u _ hH0.out HU.out).mono ?_
  rintro e w1 ⟨rfl, hb⟩
  have hB1 := Lib.hid hb
  clear hb
  go_wp2
  go_ret
  exact ⟨rfl, hB1.out⟩

set_option maxHeartbeats 2000000 in
set_option maxRecDepth 100000 in
theorem within_is_2 (x : Int) (i : Nat) (r : Int) (hx : x = 265216 + 256 * i + r) (hi : i < 16) (h0 : 0 ≤ r) (h1 : r < 256) (m : Int) (h4 : x % 4 = 0) (hm : 1 ≤ m) (g : Nat) (a : Nat → Nat) (u : Nat → Nat → Bool) (w : World) (hH : HeapAt w g a u) (hu : u 2 i = true) :
    Calls Try.prog 16 #[.pointer (some ⟨g, 0, none⟩), .int .i64 x, .int .i64 m] w fun e w' => e = .returned (.bool (decide (m ≤ 64 - r / 4))) ∧ Below w.heap.size w w' := by
  have hH0 := Lib.hid hH
  clear hH
  have HX := Lib.hid hx
  have HU := Lib.hid hu
  clear hx hu
  have x0 : 0 ≤ x := by have := HX.out; omega
  have m1 : (x % 4 == 0) = true := by simpa using h4
  have m2 : (x % 4 != 0) = false := by simpa using h4
  have m3 : decide (m < 1) = false := by simp; omega
  have q0 : 0 ≤ r / 4 := by omega
  have q1 : r / 4 < 64 := by omega
  clear h4
  go_enter Try.func16, Try.ntmps16
  go_wp2_with fail
  refine (none_any g _ hH0.out.made).mono ?_
  rintro e w' ⟨rfl, rfl⟩
  go_wp2_with fail
  refine (findN_2 x i r true HX.out hi h0 h1 g a u _ hH0.out HU.out).mono ?_
  rintro e w1 ⟨rfl, hb⟩
  have hB1 := Lib.hid hb
  clear hb
  go_wp2_with fail
  refine (all_any _).mono ?_
  rintro e w2 ⟨rfl, hb2⟩
  go_wp2
  go_ret
  exact ⟨rfl, bl_then hB1.out hb2⟩

set_option maxHeartbeats 2000000 in
set_option maxRecDepth 100000 in
theorem free_ok_3 (x : Int) (i : Nat) (hx : x = 269312 + 512 * i) (hi : i < 8) (g : Nat) (a : Nat → Nat) (u : Nat → Nat → Bool) (w : World) (hH : HeapAt w g a u) (hu : u 3 i = true) :
    Calls Try.prog 10 #[.pointer (some ⟨g, 0, none⟩), .int .i64 x] w fun e w' => e = .returned (.int .i64 0) ∧ HeapAt w' g a (upd u 3 i false) ∧ Hb a w w' := by
  have hH0 := Lib.hid hH
  clear hH
  have HX := Lib.hid hx
  have HU := Lib.hid hu
  clear hx hu
  go_enter Try.func10, Try.ntmps10
  go_wp2_with fail
  refine (none_any g _ hH0.out.made).mono ?_
  rintro e w' ⟨rfl, rfl⟩
  go_wp2_with fail
  refine (findN_3 x i 0 true (by have := HX.out; omega) hi (by omega) (by omega) g a u _ hH0.out HU.out).mono ?_
  rintro e w1 ⟨rfl, hb⟩
  have hH1 := Lib.hid (hH0.out.below hb)
  have hB1 := Lib.hid (Hb.of_below (a := a) hb)
  clear hb
  have ca := hH1.out.arr 3 (by omega)
  simp only [nb, Nat.add_zero, Nat.reduceAdd] at ca
  have cb := hH1.out.bit 3 i (by omega) hi
  have cf := hH1.out.frz 3 i (by omega) hi
  go_wp2
  go_ret
  exact ⟨rfl, hH1.out.set (by omega) hi false, hB1.out.trans (Hb.set (by omega))⟩

set_option maxHeartbeats 2000000 in
set_option maxRecDepth 100000 in
theorem free_no_3 (x : Int) (i : Nat) (r : Int) (hx : x = 269312 + 512 * i + r) (hi : i < 8) (h0 : 0 ≤ r) (h1 : r < 512) (g : Nat) (a : Nat → Nat) (u : Nat → Nat → Bool) (w : World) (hH : HeapAt w g a u) (hu : u 3 i = false)  :
    Calls Try.prog 10 #[.pointer (some ⟨g, 0, none⟩), .int .i64 x] w fun e w' => e = .returned (.int .i64 13) ∧ Below w.heap.size w w' := by
  have hH0 := Lib.hid hH
  clear hH
  have HX := Lib.hid hx
  have HU := Lib.hid hu
  clear hx hu
  go_enter Try.func10, Try.ntmps10
  go_wp2_with fail
  refine (none_any g _ hH0.out.made).mono ?_
  rintro e w' ⟨rfl, rfl⟩
  go_wp2_with fail
  refine (findN_3 x i r false HX.out hi h0 h1 g a u _ hH0.out HU.out).mono ?_
  rintro e w1 ⟨rfl, hb⟩
  have hB1 := Lib.hid hb
  clear hb
  go_wp2
  go_ret
  exact ⟨rfl, hB1.out⟩

set_option maxHeartbeats 2000000 in
set_option maxRecDepth 100000 in
theorem free_off_3 (x : Int) (i : Nat) (r : Int) (hx : x = 269312 + 512 * i + r) (hi : i < 8) (h0 : 0 ≤ r) (h1 : r < 512) (g : Nat) (a : Nat → Nat) (u : Nat → Nat → Bool) (w : World) (hH : HeapAt w g a u) (hu : u 3 i = true) (hr : r ≠ 0) :
    Calls Try.prog 10 #[.pointer (some ⟨g, 0, none⟩), .int .i64 x] w fun e w' => e = .returned (.int .i64 13) ∧ Below w.heap.size w w' := by
  have hH0 := Lib.hid hH
  clear hH
  have HX := Lib.hid hx
  have HU := Lib.hid hu
  clear hx hu
  have r1 : (r != 0) = true := by simpa using hr
  have r2 : (r == 0) = false := by simpa using hr
  clear hr
  go_enter Try.func10, Try.ntmps10
  go_wp2_with fail
  refine (none_any g _ hH0.out.made).mono ?_
  rintro e w' ⟨rfl, rfl⟩
  go_wp2_with fail
  refine (findN_3 x i r true HX.out hi h0 h1 g a u _ hH0.out HU.out).mono ?_
  rintro e w1 ⟨rfl, hb⟩
  have hB1 := Lib.hid hb
  clear hb
  go_wp2
  go_ret
  exact ⟨rfl, hB1.out⟩

set_option maxHeartbeats 2000000 in
set_option maxRecDepth 100000 in
theorem within_no_3 (x : Int) (i : Nat) (r : Int) (hx : x = 269312 + 512 * i + r) (hi : i < 8) (h0 : 0 ≤ r) (h1 : r < 512) (m : Int) (h4 : x % 4 = 0) (hm : 1 ≤ m) (g : Nat) (a : Nat → Nat) (u : Nat → Nat → Bool) (w : World) (hH : HeapAt w g a u) (hu : u 3 i = false) :
    Calls Try.prog 16 #[.pointer (some ⟨g, 0, none⟩), .int .i64 x, .int .i64 m] w fun e w' => e = .returned (.bool false) ∧ Below w.heap.size w w' := by
  have hH0 := Lib.hid hH
  clear hH
  have HX := Lib.hid hx
  have HU := Lib.hid hu
  clear hx hu
  have x0 : 0 ≤ x := by have := HX.out; omega
  have m1 : (x % 4 == 0) = true := by simpa using h4
  have m2 : (x % 4 != 0) = false := by simpa using h4
  have m3 : decide (m < 1) = false := by simp; omega
  have q0 : 0 ≤ r / 4 := by omega
  have q1 : r / 4 < 128 := by omega
  clear h4
  go_enter Try.func16, Try.ntmps16
  go_wp2_with fail
  refine (none_any g _ hH0.out.made).mono ?_
  rintro e w' ⟨rfl, rfl⟩
  go_wp2_with fail
  refine (findN_3 x i r false HX.out hi h0 h1 g a u _ hH0.out HU.out).mono ?_
  rintro e w1 ⟨rfl, hb⟩
  have hB1 := Lib.hid hb
  clear hb
  go_wp2
  go_ret
  exact ⟨rfl, hB1.out⟩

set_option maxHeartbeats 2000000 in
set_option maxRecDepth 100000 in
theorem within_is_3 (x : Int) (i : Nat) (r : Int) (hx : x = 269312 + 512 * i + r) (hi : i < 8) (h0 : 0 ≤ r) (h1 : r < 512) (m : Int) (h4 : x % 4 = 0) (hm : 1 ≤ m) (g : Nat) (a : Nat → Nat) (u : Nat → Nat → Bool) (w : World) (hH : HeapAt w g a u) (hu : u 3 i = true) :
    Calls Try.prog 16 #[.pointer (some ⟨g, 0, none⟩), .int .i64 x, .int .i64 m] w fun e w' => e = .returned (.bool (decide (m ≤ 128 - r / 4))) ∧ Below w.heap.size w w' := by
  have hH0 := Lib.hid hH
  clear hH
  have HX := Lib.hid hx
  have HU := Lib.hid hu
  clear hx hu
  have x0 : 0 ≤ x := by have := HX.out; omega
  have m1 : (x % 4 == 0) = true := by simpa using h4
  have m2 : (x % 4 != 0) = false := by simpa using h4
  have m3 : decide (m < 1) = false := by simp; omega
  have q0 : 0 ≤ r / 4 := by omega
  have q1 : r / 4 < 128 := by omega
  clear h4
  go_enter Try.func16, Try.ntmps16
  go_wp2_with fail
  refine (none_any g _ hH0.out.made).mono ?_
  rintro e w' ⟨rfl, rfl⟩
  go_wp2_with fail
  refine (findN_3 x i r true HX.out hi h0 h1 g a u _ hH0.out HU.out).mono ?_
  rintro e w1 ⟨rfl, hb⟩
  have hB1 := Lib.hid hb
  clear hb
  go_wp2_with fail
  refine (all_any _).mono ?_
  rintro e w2 ⟨rfl, hb2⟩
  go_wp2
  go_ret
  exact ⟨rfl, bl_then hB1.out hb2⟩

set_option maxHeartbeats 2000000 in
set_option maxRecDepth 100000 in
theorem free_lo (x : Int) (h : x < 262144) (g : Nat) (a : Nat → Nat) (u : Nat → Nat → Bool) (w : World) (hH : HeapAt w g a u) :
    Calls Try.prog 10 #[.pointer (some ⟨g, 0, none⟩), .int .i64 x] w fun e w' => e = .returned (.int .i64 13) ∧ Below w.heap.size w w' := by
  have hH0 := Lib.hid hH
  clear hH
  go_enter Try.func10, Try.ntmps10
  go_wp2_with fail
  refine (none_any g _ hH0.out.made).mono ?_
  rintro e w' ⟨rfl, rfl⟩
  go_wp2_with fail
  refine (find_lo x h g a u _ hH0.out).mono ?_
  rintro e w1 ⟨rfl, hb⟩
  have hB1 := Lib.hid hb
  clear hb
  go_wp2
  go_ret
  exact ⟨rfl, hB1.out⟩

set_option maxHeartbeats 2000000 in
set_option maxRecDepth 100000 in
theorem free_hi (x : Int) (h : 273408 ≤ x) (g : Nat) (a : Nat → Nat) (u : Nat → Nat → Bool) (w : World) (hH : HeapAt w g a u) :
    Calls Try.prog 10 #[.pointer (some ⟨g, 0, none⟩), .int .i64 x] w fun e w' => e = .returned (.int .i64 13) ∧ Below w.heap.size w w' := by
  have hH0 := Lib.hid hH
  clear hH
  go_enter Try.func10, Try.ntmps10
  go_wp2_with fail
  refine (none_any g _ hH0.out.made).mono ?_
  rintro e w' ⟨rfl, rfl⟩
  go_wp2_with fail
  refine (find_hi x h g a u _ hH0.out).mono ?_
  rintro e w1 ⟨rfl, hb⟩
  have hB1 := Lib.hid hb
  clear hb
  go_wp2
  go_ret
  exact ⟨rfl, hB1.out⟩

end Go.Proofs.Ytefkaikedapokaa
