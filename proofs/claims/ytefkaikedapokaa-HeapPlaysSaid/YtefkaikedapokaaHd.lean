/- Contracts of package heap: Alloc. -/
import Derived.Test.YtefkaikedapokaaHc
import Derived.LoopTactic
namespace Go.Proofs.Ytefkaikedapokaa
open Go.RowKit
set_option linter.unusedSimpArgs false
attribute [local go_sem] ix0 ix1 ix2 ix3 fb0 fb1 fb2 fb3 fs0 fs1 fs2 fs3

/-- Nothing but the blocks a 0 .. a 3, of what was there, has turned. -/
structure Hb (a : Nat → Nat) (w w' : World) : Prop where
  os : w'.os = w.os
  tape : w'.tape = w.tape
  output : w'.output = w.output
  size : w.heap.size ≤ w'.heap.size
  block : ∀ b, b < w.heap.size → (∀ k, k < 4 → b ≠ a k) → w'.heap[b]? = w.heap[b]?
theorem Hb.of_below {a : Nat → Nat} {w w' : World} (h : Below w.heap.size w w') : Hb a w w' := ⟨h.os, h.tape, h.output, h.size, fun b hb _ => h.block b hb⟩
theorem Hb.trans {a : Nat → Nat} {w w1 w2 : World} (h : Hb a w w1) (k : Hb a w1 w2) : Hb a w w2 :=
  ⟨k.os.trans h.os, k.tape.trans h.tape, k.output.trans h.output, Nat.le_trans h.size k.size, fun b hb hn => (k.block b (Nat.lt_of_lt_of_le hb h.size) hn).trans (h.block b hb hn)⟩
theorem Hb.set {a : Nat → Nat} {w : World} {k i : Nat} {v : Value} (hk : k < 4) : Hb a w (w.setCell ⟨a k, i, none⟩ v) :=
  ⟨rfl, rfl, rfl, by simp [World.setCell], fun b _ hn => Below.heap_setCell _ _ _ _ (hn k hk)⟩
theorem Hb.below {a : Nat → Nat} {W w w' : World} (h : Below W.heap.size W w) (k : Hb a w w') (ha : ∀ j, j < 4 → W.heap.size ≤ a j) : Below W.heap.size W w' :=
  h.trans ⟨k.os, k.tape, k.output, k.size, fun b hb => k.block b (Nat.lt_of_lt_of_le hb h.size) (fun j hj e => by have := ha j hj; omega)⟩

def upd (u : Nat → Nat → Bool) (k i : Nat) (b : Bool) : Nat → Nat → Bool := fun k' i' => if k' = k ∧ i' = i then b else u k' i'

theorem HeapAt.set {w : World} {g : Nat} {a : Nat → Nat} {u : Nat → Nat → Bool} (h : HeapAt w g a u) {k i : Nat} (hk : k < 4) (hi : i < nb k) (b : Bool) : HeapAt (w.setCell ⟨a k, i, none⟩ (.bool b)) g a (upd u k i b) := by
  have hg : (w.setCell ⟨a k, i, none⟩ (.bool b)).heap[g]? = w.heap[g]? := Below.heap_setCell _ _ _ _ (fun e => h.ne k hk e.symm)
  refine ⟨(World.cell?_of_block (w := w) hg).trans h.made, fun j hj => (World.cell?_of_block (w := w) hg).trans (h.arr j hj), fun j m hj hm => ?_, fun j m hj hm => ?_, h.ne, h.inj⟩
  · unfold upd
    by_cases e : j = k ∧ m = i
    · obtain ⟨rfl, rfl⟩ := e
      rw [World.cell?_setCell_same (h := h.bit j m hj hm)]
      simp
    · rw [World.cell?_setCell_other (h := ?_), h.bit j m hj hm, if_neg e]
      intro he
      injection he with e1 e2
      exact e ⟨(h.inj k j hk hj e1).symm, e2.symm⟩
  · rw [World.frozen?_setCell]
    exact h.frz j m hj hm

set_option maxHeartbeats 2000000 in
set_option maxRecDepth 100000 in
theorem alloc_in_0 (n : Int) (h0 : 0 ≤ n) (h1 : n ≤ 4) (i : Nat) (hi : i < 64) (g : Nat) (a : Nat → Nat) (u : Nat → Nat → Bool) (w : World) (hH : HeapAt w g a u) (hf : u 0 i = false) (ha : ∀ j, j < i → u 0 j = true) :
    Calls Try.prog 8 #[.pointer (some ⟨g, 0, none⟩), .int .i64 n] w fun e w' => e = .returned (.tuple #[.int .i64 (262144 + 16 * i), .int .i64 0]) ∧ HeapAt w' g a (upd u 0 i true) ∧ Hb a w w' := by
  have hH0 := Lib.hid hH
  have HF := Lib.hid hf
  have HA := Lib.hid ha
  clear hH hf ha
  go_enter Try.func8, Try.ntmps8
  go_wp2_with fail
  refine (none_any g _ hH0.out.made).mono ?_
  rintro e w' ⟨rfl, rfl⟩
  go_wp2_with fail
  refine (class_0 n h0 h1 _).mono ?_
  rintro e w1 ⟨rfl, hb⟩
  have hH1 := Lib.hid (hH0.out.below hb)
  have hB1 := Lib.hid (Hb.of_below (a := a) hb)
  clear hb
  go_wp2
  have ca := hH1.out.arr 0 (by omega)
  simp only [nb, Nat.add_zero, Nat.reduceAdd] at ca
  go_loop [24] (fun t => ∃ j : Nat, j ≤ i ∧ t = .int .i64 j) (fun t => i - (intOf t).toNat)
  case atStart => exact ⟨0, Nat.zero_le _, rfl⟩
  case round =>
    obtain ⟨j, hj, rfl⟩ := hrel
    have hj64 : j < 64 := by omega
    have cb := hH1.out.bit 0 j (by omega) hj64
    by_cases hji : j < i
    · rw [HA.out j hji] at cb
      go_wp2
      go_round
      case rel => exact ⟨j + 1, by omega, by go_num⟩
      case measure => simp [intOf]; omega
    · obtain rfl : j = i := by omega
      rw [HF.out] at cb
      have cf := hH1.out.frz 0 j (by omega) hj64
      go_wp2_with fail
      refine (all_any _).mono ?_
      rintro e w2 ⟨rfl, hb2⟩
      go_wp2
      go_ret2
      exact ⟨rfl, (hH1.out.set (by omega) hj64 true).below hb2, hB1.out.trans ((Hb.set (by omega)).trans (Hb.of_below hb2))⟩

set_option maxHeartbeats 2000000 in
set_option maxRecDepth 100000 in
theorem alloc_full_0 (n : Int) (h0 : 0 ≤ n) (h1 : n ≤ 4) (g : Nat) (a : Nat → Nat) (u : Nat → Nat → Bool) (w : World) (hH : HeapAt w g a u) (ha : ∀ j, j < 64 → u 0 j = true) :
    Calls Try.prog 8 #[.pointer (some ⟨g, 0, none⟩), .int .i64 n] w fun e w' => e = .returned (.tuple #[.int .i64 0, .int .i64 12]) ∧ Below w.heap.size w w' := by
  have hH0 := Lib.hid hH
  have HA := Lib.hid ha
  clear hH ha
  go_enter Try.func8, Try.ntmps8
  go_wp2_with fail
  refine (none_any g _ hH0.out.made).mono ?_
  rintro e w' ⟨rfl, rfl⟩
  go_wp2_with fail
  refine (class_0 n h0 h1 _).mono ?_
  rintro e w1 ⟨rfl, hb⟩
  have hH1 := Lib.hid (hH0.out.below hb)
  have hB1 := Lib.hid (hb)
  clear hb
  go_wp2
  have ca := hH1.out.arr 0 (by omega)
  simp only [nb, Nat.add_zero, Nat.reduceAdd] at ca
  go_loop [24] (fun t => ∃ j : Nat, j ≤ 64 ∧ t = .int .i64 j) (fun t => 64 - (intOf t).toNat)
  case atStart => exact ⟨0, Nat.zero_le _, rfl⟩
  case round =>
    obtain ⟨j, hj, rfl⟩ := hrel
    by_cases hji : j < 64
    · have cb := hH1.out.bit 0 j (by omega) hji
      rw [HA.out j hji] at cb
      go_wp2
      go_round
      case rel => exact ⟨j + 1, by omega, by go_num⟩
      case measure => simp [intOf]; omega
    · go_wp2
      go_ret2
      exact ⟨rfl, hB1.out⟩

set_option maxHeartbeats 2000000 in
set_option maxRecDepth 100000 in
theorem alloc_in_1 (n : Int) (h0 : 5 ≤ n) (h1 : n ≤ 16) (i : Nat) (hi : i < 32) (g : Nat) (a : Nat → Nat) (u : Nat → Nat → Bool) (w : World) (hH : HeapAt w g a u) (hf : u 1 i = false) (ha : ∀ j, j < i → u 1 j = true) :
    Calls Try.prog 8 #[.pointer (some ⟨g, 0, none⟩), .int .i64 n] w fun e w' => e = .returned (.tuple #[.int .i64 (263168 + 64 * i), .int .i64 0]) ∧ HeapAt w' g a (upd u 1 i true) ∧ Hb a w w' := by
  have hH0 := Lib.hid hH
  have HF := Lib.hid hf
  have HA := Lib.hid ha
  clear hH hf ha
  go_enter Try.func8, Try.ntmps8
  go_wp2_with fail
  refine (none_any g _ hH0.out.made).mono ?_
  rintro e w' ⟨rfl, rfl⟩
  go_wp2_with fail
  refine (class_1 n h0 h1 _).mono ?_
  rintro e w1 ⟨rfl, hb⟩
  have hH1 := Lib.hid (hH0.out.below hb)
  have hB1 := Lib.hid (Hb.of_below (a := a) hb)
  clear hb
  go_wp2
  have ca := hH1.out.arr 1 (by omega)
  simp only [nb, Nat.add_zero, Nat.reduceAdd] at ca
  go_loop [24] (fun t => ∃ j : Nat, j ≤ i ∧ t = .int .i64 j) (fun t => i - (intOf t).toNat)
  case atStart => exact ⟨0, Nat.zero_le _, rfl⟩
  case round =>
    obtain ⟨j, hj, rfl⟩ := hrel
    have hj64 : j < 32 := by omega
    have cb := hH1.out.bit 1 j (by omega) hj64
    by_cases hji : j < i
    · rw [HA.out j hji] at cb
      go_wp2
      go_round
      case rel => exact ⟨j + 1, by omega, by go_num⟩
      case measure => simp [intOf]; omega
    · obtain rfl : j = i := by omega
      rw [HF.out] at cb
      have cf := hH1.out.frz 1 j (by omega) hj64
      go_wp2_with fail
      refine (all_any _).mono ?_
      rintro e w2 ⟨rfl, hb2⟩
      go_wp2
      go_ret2
      exact ⟨rfl, (hH1.out.set (by omega) hj64 true).below hb2, hB1.out.trans ((Hb.set (by omega)).trans (Hb.of_below hb2))⟩

set_option maxHeartbeats 2000000 in
set_option maxRecDepth 100000 in
theorem alloc_full_1 (n : Int) (h0 : 5 ≤ n) (h1 : n ≤ 16) (g : Nat) (a : Nat → Nat) (u : Nat → Nat → Bool) (w : World) (hH : HeapAt w g a u) (ha : ∀ j, j < 32 → u 1 j = true) :
    Calls Try.prog 8 #[.pointer (some ⟨g, 0, none⟩), .int .i64 n] w fun e w' => e = .returned (.tuple #[.int .i64 0, .int .i64 12]) ∧ Below w.heap.size w w' := by
  have hH0 := Lib.hid hH
  have HA := Lib.hid ha
  clear hH ha
  go_enter Try.func8, Try.ntmps8
  go_wp2_with fail
  refine (none_any g _ hH0.out.made).mono ?_
  rintro e w' ⟨rfl, rfl⟩
  go_wp2_with fail
  refine (class_1 n h0 h1 _).mono ?_
  rintro e w1 ⟨rfl, hb⟩
  have hH1 := Lib.hid (hH0.out.below hb)
  have hB1 := Lib.hid (hb)
  clear hb
  go_wp2
  have ca := hH1.out.arr 1 (by omega)
  simp only [nb, Nat.add_zero, Nat.reduceAdd] at ca
  go_loop [24] (fun t => ∃ j : Nat, j ≤ 32 ∧ t = .int .i64 j) (fun t => 32 - (intOf t).toNat)
  case atStart => exact ⟨0, Nat.zero_le _, rfl⟩
  case round =>
    obtain ⟨j, hj, rfl⟩ := hrel
    by_cases hji : j < 32
    · have cb := hH1.out.bit 1 j (by omega) hji
      rw [HA.out j hji] at cb
      go_wp2
      go_round
      case rel => exact ⟨j + 1, by omega, by go_num⟩
      case measure => simp [intOf]; omega
    · go_wp2
      go_ret2
      exact ⟨rfl, hB1.out⟩

set_option maxHeartbeats 2000000 in
set_option maxRecDepth 100000 in
theorem alloc_in_2 (n : Int) (h0 : 17 ≤ n) (h1 : n ≤ 64) (i : Nat) (hi : i < 16) (g : Nat) (a : Nat → Nat) (u : Nat → Nat → Bool) (w : World) (hH : HeapAt w g a u) (hf : u 2 i = false) (ha : ∀ j, j < i → u 2 j = true) :
    Calls Try.prog 8 #[.pointer (some ⟨g, 0, none⟩), .int .i64 n] w fun e w' => e = .returned (.tuple #[.int .i64 (265216 + 256 * i), .int .i64 0]) ∧ HeapAt w' g a (upd u 2 i true) ∧ Hb a w w' := by
  have hH0 := Lib.hid hH
  have HF := Lib.hid hf
  have HA := Lib.hid ha
  clear hH hf ha
  go_enter Try.func8, Try.ntmps8
  go_wp2_with fail
  refine (none_any g _ hH0.out.made).mono ?_
  rintro e w' ⟨rfl, rfl⟩
  go_wp2_with fail
  refine (class_2 n h0 h1 _).mono ?_
  rintro e w1 ⟨rfl, hb⟩
  have hH1 := Lib.hid (hH0.out.below hb)
  have hB1 := Lib.hid (Hb.of_below (a := a) hb)
  clear hb
  go_wp2
  have ca := hH1.out.arr 2 (by omega)
  simp only [nb, Nat.add_zero, Nat.reduceAdd] at ca
  go_loop [24] (fun t => ∃ j : Nat, j ≤ i ∧ t = .int .i64 j) (fun t => i - (intOf t).toNat)
  case atStart => exact ⟨0, Nat.zero_le _, rfl⟩
  case round =>
    obtain ⟨j, hj, rfl⟩ := hrel
    have hj64 : j < 16 := by omega
    have cb := hH1.out.bit 2 j (by omega) hj64
    by_cases hji : j < i
    · rw [HA.out j hji] at cb
      go_wp2
      go_round
      case rel => exact ⟨j + 1, by omega, by go_num⟩
      case measure => simp [intOf]; omega
    · obtain rfl : j = i := by omega
      rw [HF.out] at cb
      have cf := hH1.out.frz 2 j (by omega) hj64
      go_wp2_with fail
      refine (all_any _).mono ?_
      rintro e w2 ⟨rfl, hb2⟩
      go_wp2
      go_ret2
      exact ⟨rfl, (hH1.out.set (by omega) hj64 true).below hb2, hB1.out.trans ((Hb.set (by omega)).trans (Hb.of_below hb2))⟩

set_option maxHeartbeats 2000000 in
set_option maxRecDepth 100000 in
theorem alloc_full_2 (n : Int) (h0 : 17 ≤ n) (h1 : n ≤ 64) (g : Nat) (a : Nat → Nat) (u : Nat → Nat → Bool) (w : World) (hH : HeapAt w g a u) (ha : ∀ j, j < 16 → u 2 j = true) :
    Calls Try.prog 8 #[.pointer (some ⟨g, 0, none⟩), .int .i64 n] w fun e w' => e = .returned (.tuple #[.int .i64 0, .int .i64 12]) ∧ Below w.heap.size w w' := by
  have hH0 := Lib.hid hH
  have HA := Lib.hid ha
  clear hH ha
  go_enter Try.func8, Try.ntmps8
  go_wp2_with fail
  refine (none_any g _ hH0.out.made).mono ?_
  rintro e w' ⟨rfl, rfl⟩
  go_wp2_with fail
  refine (class_2 n h0 h1 _).mono ?_
  rintro e w1 ⟨rfl, hb⟩
  have hH1 := Lib.hid (hH0.out.below hb)
  have hB1 := Lib.hid (hb)
  clear hb
  go_wp2
  have ca := hH1.out.arr 2 (by omega)
  simp only [nb, Nat.add_zero, Nat.reduceAdd] at ca
  go_loop [24] (fun t => ∃ j : Nat, j ≤ 16 ∧ t = .int .i64 j) (fun t => 16 - (intOf t).toNat)
  case atStart => exact ⟨0, Nat.zero_le _, rfl⟩
  case round =>
    obtain ⟨j, hj, rfl⟩ := hrel
    by_cases hji : j < 16
    · have cb := hH1.out.bit 2 j (by omega) hji
      rw [HA.out j hji] at cb
      go_wp2
      go_round
      case rel => exact ⟨j + 1, by omega, by go_num⟩
      case measure => simp [intOf]; omega
    · go_wp2
      go_ret2
      exact ⟨rfl, hB1.out⟩

set_option maxHeartbeats 2000000 in
set_option maxRecDepth 100000 in
theorem alloc_in_3 (n : Int) (h0 : 65 ≤ n) (h1 : n ≤ 128) (i : Nat) (hi : i < 8) (g : Nat) (a : Nat → Nat) (u : Nat → Nat → Bool) (w : World) (hH : HeapAt w g a u) (hf : u 3 i = false) (ha : ∀ j, j < i → u 3 j = true) :
    Calls Try.prog 8 #[.pointer (some ⟨g, 0, none⟩), .int .i64 n] w fun e w' => e = .returned (.tuple #[.int .i64 (269312 + 512 * i), .int .i64 0]) ∧ HeapAt w' g a (upd u 3 i true) ∧ Hb a w w' := by
  have hH0 := Lib.hid hH
  have HF := Lib.hid hf
  have HA := Lib.hid ha
  clear hH hf ha
  go_enter Try.func8, Try.ntmps8
  go_wp2_with fail
  refine (none_any g _ hH0.out.made).mono ?_
  rintro e w' ⟨rfl, rfl⟩
  go_wp2_with fail
  refine (class_3 n h0 h1 _).mono ?_
  rintro e w1 ⟨rfl, hb⟩
  have hH1 := Lib.hid (hH0.out.below hb)
  have hB1 := Lib.hid (Hb.of_below (a := a) hb)
  clear hb
  go_wp2
  have ca := hH1.out.arr 3 (by omega)
  simp only [nb, Nat.add_zero, Nat.reduceAdd] at ca
  go_loop [24] (fun t => ∃ j : Nat, j ≤ i ∧ t = .int .i64 j) (fun t => i - (intOf t).toNat)
  case atStart => exact ⟨0, Nat.zero_le _, rfl⟩
  case round =>
    obtain ⟨j, hj, rfl⟩ := hrel
    have hj64 : j < 8 := by omega
    have cb := hH1.out.bit 3 j (by omega) hj64
    by_cases hji : j < i
    · rw [HA.out j hji] at cb
      go_wp2
      go_round
      case rel => exact ⟨j + 1, by omega, by go_num⟩
      case measure => simp [intOf]; omega
    · obtain rfl : j = i := by omega
      rw [HF.out] at cb
      have cf := hH1.out.frz 3 j (by omega) hj64
      go_wp2_with fail
      refine (all_any _).mono ?_
      rintro e w2 ⟨rfl, hb2⟩
      go_wp2
      go_ret2
      exact ⟨rfl, (hH1.out.set (by omega) hj64 true).below hb2, hB1.out.trans ((Hb.set (by omega)).trans (Hb.of_below hb2))⟩

set_option maxHeartbeats 2000000 in
set_option maxRecDepth 100000 in
theorem alloc_full_3 (n : Int) (h0 : 65 ≤ n) (h1 : n ≤ 128) (g : Nat) (a : Nat → Nat) (u : Nat → Nat → Bool) (w : World) (hH : HeapAt w g a u) (ha : ∀ j, j < 8 → u 3 j = true) :
    Calls Try.prog 8 #[.pointer (some ⟨g, 0, none⟩), .int .i64 n] w fun e w' => e = .returned (.tuple #[.int .i64 0, .int .i64 12]) ∧ Below w.heap.size w w' := by
  have hH0 := Lib.hid hH
  have HA := Lib.hid ha
  clear hH ha
  go_enter Try.func8, Try.ntmps8
  go_wp2_with fail
  refine (none_any g _ hH0.out.made).mono ?_
  rintro e w' ⟨rfl, rfl⟩
  go_wp2_with fail
  refine (class_3 n h0 h1 _).mono ?_
  rintro e w1 ⟨rfl, hb⟩
  have hH1 := Lib.hid (hH0.out.below hb)
  have hB1 := Lib.hid (hb)
  clear hb
  go_wp2
  have ca := hH1.out.arr 3 (by omega)
  simp only [nb, Nat.add_zero, Nat.reduceAdd] at ca
  go_loop [24] (fun t => ∃ j : Nat, j ≤ 8 ∧ t = .int .i64 j) (fun t => 8 - (intOf t).toNat)
  case atStart => exact ⟨0, Nat.zero_le _, rfl⟩
  case round =>
    obtain ⟨j, hj, rfl⟩ := hrel
    by_cases hji : j < 8
    · have cb := hH1.out.bit 3 j (by omega) hji
      rw [HA.out j hji] at cb
      go_wp2
      go_round
      case rel => exact ⟨j + 1, by omega, by go_num⟩
      case measure => simp [intOf]; omega
    · go_wp2
      go_ret2
      exact ⟨rfl, hB1.out⟩

set_option maxHeartbeats 2000000 in
set_option maxRecDepth 100000 in
theorem alloc_neg (n : Int) (h : n < 0) (g : Nat) (a : Nat → Nat) (u : Nat → Nat → Bool) (w : World) (hH : HeapAt w g a u) :
    Calls Try.prog 8 #[.pointer (some ⟨g, 0, none⟩), .int .i64 n] w fun e w' => e = .returned (.tuple #[.int .i64 0, .int .i64 2]) ∧ Below w.heap.size w w' := by
  have hH0 := Lib.hid hH
  clear hH
  go_enter Try.func8, Try.ntmps8
  go_wp2_with fail
  refine (none_any g _ hH0.out.made).mono ?_
  rintro e w' ⟨rfl, rfl⟩
  go_wp2_with fail
  refine (class_neg n h _).mono ?_
  rintro e w1 ⟨rfl, hb⟩
  have hB1 := Lib.hid hb
  clear hb
  go_wp2
  go_ret2
  exact ⟨rfl, hB1.out⟩

set_option maxHeartbeats 2000000 in
set_option maxRecDepth 100000 in
theorem alloc_big (n : Int) (h : 128 < n) (g : Nat) (a : Nat → Nat) (u : Nat → Nat → Bool) (w : World) (hH : HeapAt w g a u) :
    Calls Try.prog 8 #[.pointer (some ⟨g, 0, none⟩), .int .i64 n] w fun e w' => e = .returned (.tuple #[.int .i64 0, .int .i64 2]) ∧ Below w.heap.size w w' := by
  have hH0 := Lib.hid hH
  clear hH
  go_enter Try.func8, Try.ntmps8
  go_wp2_with fail
  refine (none_any g _ hH0.out.made).mono ?_
  rintro e w' ⟨rfl, rfl⟩
  go_wp2_with fail
  refine (class_big n h _).mono ?_
  rintro e w1 ⟨rfl, hb⟩
  have hB1 := Lib.hid hb
  clear hb
  go_wp2
  go_ret2
  exact ⟨rfl, hB1.out⟩

end Go.Proofs.Ytefkaikedapokaa
