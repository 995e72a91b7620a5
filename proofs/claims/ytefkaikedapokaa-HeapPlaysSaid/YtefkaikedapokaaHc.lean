/- Contracts of package heap: find. -/
import Derived.Test.YtefkaikedapokaaHb
import Derived.Lib.Hide
namespace Go.Proofs.Ytefkaikedapokaa
open Go.RowKit
set_option linter.unusedSimpArgs false
attribute [local go_sem] ix0 ix1 ix2 ix3

theorem cell_lt {w : World} {p : Addr} {v : Value} (h : w.cell? p = some v) : p.block < w.heap.size := World.block_lt_of_cell? w p h

theorem HeapAt.at_block {w w' : World} {g : Nat} {a : Nat → Nat} {u : Nat → Nat → Bool} (h : HeapAt w g a u) (hg : w'.heap[g]? = w.heap[g]?) (ha : ∀ k, k < 4 → w'.heap[a k]? = w.heap[a k]?) : HeapAt w' g a u :=
  ⟨(World.cell?_of_block (w := w) hg).trans h.made, fun k hk => (World.cell?_of_block (w := w) hg).trans (h.arr k hk), fun k i hk hi => (World.cell?_of_block (w := w) (ha k hk)).trans (h.bit k i hk hi),
   fun k i hk hi => (World.frozen?_of_block (w := w) (ha k hk)).trans (h.frz k i hk hi), h.ne, h.inj⟩
theorem HeapAt.lt_g {w : World} {g : Nat} {a : Nat → Nat} {u : Nat → Nat → Bool} (h : HeapAt w g a u) : g < w.heap.size := cell_lt h.made
theorem nb_pos (k : Nat) : 0 < nb k := by unfold nb; split <;> omega
theorem HeapAt.lt_a {w : World} {g : Nat} {a : Nat → Nat} {u : Nat → Nat → Bool} (h : HeapAt w g a u) (k : Nat) (hk : k < 4) : a k < w.heap.size := cell_lt (h.bit k 0 hk (nb_pos k))
theorem HeapAt.below {w w' : World} {g : Nat} {a : Nat → Nat} {u : Nat → Nat → Bool} (h : HeapAt w g a u) (hb : Below w.heap.size w w') : HeapAt w' g a u :=
  h.at_block (hb.block _ h.lt_g) (fun k hk => hb.block _ (h.lt_a k hk))

theorem old_cell {w w' : World} (hb : Below w.heap.size w w') {g o : Nat} {v : Value} (h : w.cell? ⟨g, o, none⟩ = some v) : w'.cell? ⟨g, o, none⟩ = some v := (hb.cell (cell_lt h)).trans h
theorem bl_one (w : World) (o : Obj) : Below w.heap.size w (w.alloc o) := bl_alloc (Below.refl _ _) o

set_option maxHeartbeats 2000000 in
set_option maxRecDepth 100000 in
theorem find_0 (x : Int) (h0 : 262144 ≤ x) (h1 : x < 263168) (g : Nat) (a : Nat → Nat) (u : Nat → Nat → Bool) (w : World) (hH : HeapAt w g a u) :
    Calls Try.prog 20 #[.pointer (some ⟨g, 0, none⟩), .int .i64 x] w fun e w' => e = .returned (.tuple #[.int .i64 0, .int .i64 ((x - 262144) / 16), .int .i64 ((x - 262144) % 16), .bool (u 0 ((x - 262144) / 16).toNat)]) ∧ Below w.heap.size w w' := by
  have hH0 := Lib.hid hH
  clear hH
  go_enter Try.func20, Try.ntmps20
  go_wp2_with fail
  refine (all_any _).mono ?_
  rintro e w1 ⟨rfl, hb⟩
  have hz : w.heap.size < w1.heap.size := by have := hb.size; simp at this; omega
  have hx : w1.cell? ⟨w.heap.size, 0, none⟩ = some (.int .i64 x) := (hb.cell (by simp)).trans (by simp [go_sem])
  have hH1 := Lib.hid ((hH0.out.below (bl_one _ _)).below hb)
  have hB1 := Lib.hid (bl_then (bl_one _ _) hb)
  clear hb
  go_wp2
  refine wp_loop_rounds 5 ?_
  rw [rounds_succ]
  go_wp2_with fail
  refine (lies_in_0 x (by omega) (by omega) _ _ (old_cell (bl_one _ _) hx) (by simp; omega)).mono ?_
  rintro e w2 ⟨rfl, hb2⟩
  have hy := old_cell hb2 (old_cell (bl_one _ _) hx)
  have hz2 : w1.heap.size < w2.heap.size := by have := hb2.size; simp at this; omega
  have hH2 := Lib.hid ((hH1.out.below (bl_one _ _)).below hb2)
  have hB2 := Lib.hid (bl_then (bl_then hB1.out (bl_one _ _)) hb2)
  have hc0 : w2.cell? ⟨w1.heap.size, 0, none⟩ = some (.int .i64 4) := (hb2.cell (by simp)).trans (by simp [go_sem])
  have hc2 : w2.cell? ⟨w1.heap.size, 2, none⟩ = some (.int .i64 262144) := (hb2.cell (by simp)).trans (by simp [go_sem])
  clear hb2 hx
  have hx := hy
  clear hy
  have k0 : 0 ≤ x - 262144 := by omega
  have k1 : x - 262144 < 1024 := by omega
  go_wp2
  obtain ⟨i, hi⟩ : ∃ i, i = (x - 262144) / 16 := ⟨_, rfl⟩
  have i0 : 0 ≤ i := by omega
  have i1 : i < 64 := by omega
  have r0 : 0 ≤ x - 262144 - 16 * i := by omega
  have r1 : x - 262144 - 16 * i < 16 := by omega
  have hm : (x - 262144) % 16 = x - 262144 - 16 * i := by omega
  rw [← hi]
  have HI := Lib.hid hi
  have HM := Lib.hid hm
  clear hi hm
  have ca := hH2.out.arr 0 (by omega)
  have cb := hH2.out.bit 0 i.toNat (by omega) (by show i.toNat < 64; omega)
  simp only [nb, Nat.add_zero, Nat.reduceAdd] at ca
  go_quiet (fail)
  go_wp2
  refine bodyPost_ret (results_tmp4 rfl _ _ _) rfl ⟨?_, bl_drewN hB2.out _⟩
  rw [HM.out, ← HI.out]
  rfl

set_option maxHeartbeats 2000000 in
set_option maxRecDepth 100000 in
theorem find_1 (x : Int) (h0 : 263168 ≤ x) (h1 : x < 265216) (g : Nat) (a : Nat → Nat) (u : Nat → Nat → Bool) (w : World) (hH : HeapAt w g a u) :
    Calls Try.prog 20 #[.pointer (some ⟨g, 0, none⟩), .int .i64 x] w fun e w' => e = .returned (.tuple #[.int .i64 1, .int .i64 ((x - 263168) / 64), .int .i64 ((x - 263168) % 64), .bool (u 1 ((x - 263168) / 64).toNat)]) ∧ Below w.heap.size w w' := by
  have hH0 := Lib.hid hH
  clear hH
  go_enter Try.func20, Try.ntmps20
  go_wp2_with fail
  refine (all_any _).mono ?_
  rintro e w1 ⟨rfl, hb⟩
  have hz : w.heap.size < w1.heap.size := by have := hb.size; simp at this; omega
  have hx : w1.cell? ⟨w.heap.size, 0, none⟩ = some (.int .i64 x) := (hb.cell (by simp)).trans (by simp [go_sem])
  have hH1 := Lib.hid ((hH0.out.below (bl_one _ _)).below hb)
  have hB1 := Lib.hid (bl_then (bl_one _ _) hb)
  clear hb
  go_wp2
  refine wp_loop_rounds 5 ?_
  rw [rounds_succ]
  go_wp2_with fail
  refine (lies_ge_0 x (by omega) _ _ (old_cell (bl_one _ _) hx) (by simp; omega)).mono ?_
  rintro e w2 ⟨rfl, hb2⟩
  have hy := old_cell hb2 (old_cell (bl_one _ _) hx)
  have hz2 : w1.heap.size < w2.heap.size := by have := hb2.size; simp at this; omega
  have hH2 := Lib.hid ((hH1.out.below (bl_one _ _)).below hb2)
  have hB2 := Lib.hid (bl_then (bl_then hB1.out (bl_one _ _)) hb2)
  clear hb2 hx
  have hx := hy
  clear hy
  go_wp2
  rw [rounds_succ]
  go_wp2_with fail
  refine (lies_in_1 x (by omega) (by omega) _ _ (old_cell (bl_one _ _) hx) (by simp; omega)).mono ?_
  rintro e w3 ⟨rfl, hb2⟩
  have hy := old_cell hb2 (old_cell (bl_one _ _) hx)
  have hz3 : w2.heap.size < w3.heap.size := by have := hb2.size; simp at this; omega
  have hH3 := Lib.hid ((hH2.out.below (bl_one _ _)).below hb2)
  have hB3 := Lib.hid (bl_then (bl_then hB2.out (bl_one _ _)) hb2)
  have hc0 : w3.cell? ⟨w2.heap.size, 0, none⟩ = some (.int .i64 16) := (hb2.cell (by simp)).trans (by simp [go_sem])
  have hc2 : w3.cell? ⟨w2.heap.size, 2, none⟩ = some (.int .i64 263168) := (hb2.cell (by simp)).trans (by simp [go_sem])
  clear hb2 hx
  have hx := hy
  clear hy
  have k0 : 0 ≤ x - 263168 := by omega
  have k1 : x - 263168 < 2048 := by omega
  go_wp2
  obtain ⟨i, hi⟩ : ∃ i, i = (x - 263168) / 64 := ⟨_, rfl⟩
  have i0 : 0 ≤ i := by omega
  have i1 : i < 32 := by omega
  have r0 : 0 ≤ x - 263168 - 64 * i := by omega
  have r1 : x - 263168 - 64 * i < 64 := by omega
  have hm : (x - 263168) % 64 = x - 263168 - 64 * i := by omega
  rw [← hi]
  have HI := Lib.hid hi
  have HM := Lib.hid hm
  clear hi hm
  have ca := hH3.out.arr 1 (by omega)
  have cb := hH3.out.bit 1 i.toNat (by omega) (by show i.toNat < 32; omega)
  simp only [nb, Nat.add_zero, Nat.reduceAdd] at ca
  go_quiet (fail)
  go_wp2
  refine bodyPost_ret (results_tmp4 rfl _ _ _) rfl ⟨?_, bl_drewN hB3.out _⟩
  rw [HM.out, ← HI.out]
  rfl

set_option maxHeartbeats 2000000 in
set_option maxRecDepth 100000 in
theorem find_2 (x : Int) (h0 : 265216 ≤ x) (h1 : x < 269312) (g : Nat) (a : Nat → Nat) (u : Nat → Nat → Bool) (w : World) (hH : HeapAt w g a u) :
    Calls Try.prog 20 #[.pointer (some ⟨g, 0, none⟩), .int .i64 x] w fun e w' => e = .returned (.tuple #[.int .i64 2, .int .i64 ((x - 265216) / 256), .int .i64 ((x - 265216) % 256), .bool (u 2 ((x - 265216) / 256).toNat)]) ∧ Below w.heap.size w w' := by
  have hH0 := Lib.hid hH
  clear hH
  go_enter Try.func20, Try.ntmps20
  go_wp2_with fail
  refine (all_any _).mono ?_
  rintro e w1 ⟨rfl, hb⟩
  have hz : w.heap.size < w1.heap.size := by have := hb.size; simp at this; omega
  have hx : w1.cell? ⟨w.heap.size, 0, none⟩ = some (.int .i64 x) := (hb.cell (by simp)).trans (by simp [go_sem])
  have hH1 := Lib.hid ((hH0.out.below (bl_one _ _)).below hb)
  have hB1 := Lib.hid (bl_then (bl_one _ _) hb)
  clear hb
  go_wp2
  refine wp_loop_rounds 5 ?_
  rw [rounds_succ]
  go_wp2_with fail
  refine (lies_ge_0 x (by omega) _ _ (old_cell (bl_one _ _) hx) (by simp; omega)).mono ?_
  rintro e w2 ⟨rfl, hb2⟩
  have hy := old_cell hb2 (old_cell (bl_one _ _) hx)
  have hz2 : w1.heap.size < w2.heap.size := by have := hb2.size; simp at this; omega
  have hH2 := Lib.hid ((hH1.out.below (bl_one _ _)).below hb2)
  have hB2 := Lib.hid (bl_then (bl_then hB1.out (bl_one _ _)) hb2)
  clear hb2 hx
  have hx := hy
  clear hy
  go_wp2
  rw [rounds_succ]
  go_wp2_with fail
  refine (lies_ge_1 x (by omega) _ _ (old_cell (bl_one _ _) hx) (by simp; omega)).mono ?_
  rintro e w3 ⟨rfl, hb2⟩
  have hy := old_cell hb2 (old_cell (bl_one _ _) hx)
  have hz3 : w2.heap.size < w3.heap.size := by have := hb2.size; simp at this; omega
  have hH3 := Lib.hid ((hH2.out.below (bl_one _ _)).below hb2)
  have hB3 := Lib.hid (bl_then (bl_then hB2.out (bl_one _ _)) hb2)
  clear hb2 hx
  have hx := hy
  clear hy
  go_wp2
  rw [rounds_succ]
  go_wp2_with fail
  refine (lies_in_2 x (by omega) (by omega) _ _ (old_cell (bl_one _ _) hx) (by simp; omega)).mono ?_
  rintro e w4 ⟨rfl, hb2⟩
  have hy := old_cell hb2 (old_cell (bl_one _ _) hx)
  have hz4 : w3.heap.size < w4.heap.size := by have := hb2.size; simp at this; omega
  have hH4 := Lib.hid ((hH3.out.below (bl_one _ _)).below hb2)
  have hB4 := Lib.hid (bl_then (bl_then hB3.out (bl_one _ _)) hb2)
  have hc0 : w4.cell? ⟨w3.heap.size, 0, none⟩ = some (.int .i64 64) := (hb2.cell (by simp)).trans (by simp [go_sem])
  have hc2 : w4.cell? ⟨w3.heap.size, 2, none⟩ = some (.int .i64 265216) := (hb2.cell (by simp)).trans (by simp [go_sem])
  clear hb2 hx
  have hx := hy
  clear hy
  have k0 : 0 ≤ x - 265216 := by omega
  have k1 : x - 265216 < 4096 := by omega
  go_wp2
  obtain ⟨i, hi⟩ : ∃ i, i = (x - 265216) / 256 := ⟨_, rfl⟩
  have i0 : 0 ≤ i := by omega
  have i1 : i < 16 := by omega
  have r0 : 0 ≤ x - 265216 - 256 * i := by omega
  have r1 : x - 265216 - 256 * i < 256 := by omega
  have hm : (x - 265216) % 256 = x - 265216 - 256 * i := by omega
  rw [← hi]
  have HI := Lib.hid hi
  have HM := Lib.hid hm
  clear hi hm
  have ca := hH4.out.arr 2 (by omega)
  have cb := hH4.out.bit 2 i.toNat (by omega) (by show i.toNat < 16; omega)
  simp only [nb, Nat.add_zero, Nat.reduceAdd] at ca
  go_quiet (fail)
  go_wp2
  refine bodyPost_ret (results_tmp4 rfl _ _ _) rfl ⟨?_, bl_drewN hB4.out _⟩
  rw [HM.out, ← HI.out]
  rfl

set_option maxHeartbeats 2000000 in
set_option maxRecDepth 100000 in
theorem find_3 (x : Int) (h0 : 269312 ≤ x) (h1 : x < 273408) (g : Nat) (a : Nat → Nat) (u : Nat → Nat → Bool) (w : World) (hH : HeapAt w g a u) :
    Calls Try.prog 20 #[.pointer (some ⟨g, 0, none⟩), .int .i64 x] w fun e w' => e = .returned (.tuple #[.int .i64 3, .int .i64 ((x - 269312) / 512), .int .i64 ((x - 269312) % 512), .bool (u 3 ((x - 269312) / 512).toNat)]) ∧ Below w.heap.size w w' := by
  have hH0 := Lib.hid hH
  clear hH
  go_enter Try.func20, Try.ntmps20
  go_wp2_with fail
  refine (all_any _).mono ?_
  rintro e w1 ⟨rfl, hb⟩
  have hz : w.heap.size < w1.heap.size := by have := hb.size; simp at this; omega
  have hx : w1.cell? ⟨w.heap.size, 0, none⟩ = some (.int .i64 x) := (hb.cell (by simp)).trans (by simp [go_sem])
  have hH1 := Lib.hid ((hH0.out.below (bl_one _ _)).below hb)
  have hB1 := Lib.hid (bl_then (bl_one _ _) hb)
  clear hb
  go_wp2
  refine wp_loop_rounds 5 ?_
  rw [rounds_succ]
  go_wp2_with fail
  refine (lies_ge_0 x (by omega) _ _ (old_cell (bl_one _ _) hx) (by simp; omega)).mono ?_
  rintro e w2 ⟨rfl, hb2⟩
  have hy := old_cell hb2 (old_cell (bl_one _ _) hx)
  have hz2 : w1.heap.size < w2.heap.size := by have := hb2.size; simp at this; omega
  have hH2 := Lib.hid ((hH1.out.below (bl_one _ _)).below hb2)
  have hB2 := Lib.hid (bl_then (bl_then hB1.out (bl_one _ _)) hb2)
  clear hb2 hx
  have hx := hy
  clear hy
  go_wp2
  rw [rounds_succ]
  go_wp2_with fail
  refine (lies_ge_1 x (by omega) _ _ (old_cell (bl_one _ _) hx) (by simp; omega)).mono ?_
  rintro e w3 ⟨rfl, hb2⟩
  have hy := old_cell hb2 (old_cell (bl_one _ _) hx)
  have hz3 : w2.heap.size < w3.heap.size := by have := hb2.size; simp at this; omega
  have hH3 := Lib.hid ((hH2.out.below (bl_one _ _)).below hb2)
  have hB3 := Lib.hid (bl_then (bl_then hB2.out (bl_one _ _)) hb2)
  clear hb2 hx
  have hx := hy
  clear hy
  go_wp2
  rw [rounds_succ]
  go_wp2_with fail
  refine (lies_ge_2 x (by omega) _ _ (old_cell (bl_one _ _) hx) (by simp; omega)).mono ?_
  rintro e w4 ⟨rfl, hb2⟩
  have hy := old_cell hb2 (old_cell (bl_one _ _) hx)
  have hz4 : w3.heap.size < w4.heap.size := by have := hb2.size; simp at this; omega
  have hH4 := Lib.hid ((hH3.out.below (bl_one _ _)).below hb2)
  have hB4 := Lib.hid (bl_then (bl_then hB3.out (bl_one _ _)) hb2)
  clear hb2 hx
  have hx := hy
  clear hy
  go_wp2
  rw [rounds_succ]
  go_wp2_with fail
  refine (lies_in_3 x (by omega) (by omega) _ _ (old_cell (bl_one _ _) hx) (by simp; omega)).mono ?_
  rintro e w5 ⟨rfl, hb2⟩
  have hy := old_cell hb2 (old_cell (bl_one _ _) hx)
  have hz5 : w4.heap.size < w5.heap.size := by have := hb2.size; simp at this; omega
  have hH5 := Lib.hid ((hH4.out.below (bl_one _ _)).below hb2)
  have hB5 := Lib.hid (bl_then (bl_then hB4.out (bl_one _ _)) hb2)
  have hc0 : w5.cell? ⟨w4.heap.size, 0, none⟩ = some (.int .i64 128) := (hb2.cell (by simp)).trans (by simp [go_sem])
  have hc2 : w5.cell? ⟨w4.heap.size, 2, none⟩ = some (.int .i64 269312) := (hb2.cell (by simp)).trans (by simp [go_sem])
  clear hb2 hx
  have hx := hy
  clear hy
  have k0 : 0 ≤ x - 269312 := by omega
  have k1 : x - 269312 < 4096 := by omega
  go_wp2
  obtain ⟨i, hi⟩ : ∃ i, i = (x - 269312) / 512 := ⟨_, rfl⟩
  have i0 : 0 ≤ i := by omega
  have i1 : i < 8 := by omega
  have r0 : 0 ≤ x - 269312 - 512 * i := by omega
  have r1 : x - 269312 - 512 * i < 512 := by omega
  have hm : (x - 269312) % 512 = x - 269312 - 512 * i := by omega
  rw [← hi]
  have HI := Lib.hid hi
  have HM := Lib.hid hm
  clear hi hm
  have ca := hH5.out.arr 3 (by omega)
  have cb := hH5.out.bit 3 i.toNat (by omega) (by show i.toNat < 8; omega)
  simp only [nb, Nat.add_zero, Nat.reduceAdd] at ca
  go_quiet (fail)
  go_wp2
  refine bodyPost_ret (results_tmp4 rfl _ _ _) rfl ⟨?_, bl_drewN hB5.out _⟩
  rw [HM.out, ← HI.out]
  rfl

set_option maxHeartbeats 2000000 in
set_option maxRecDepth 100000 in
theorem find_lo (x : Int) (h : x < 262144) (g : Nat) (a : Nat → Nat) (u : Nat → Nat → Bool) (w : World) (hH : HeapAt w g a u) :
    Calls Try.prog 20 #[.pointer (some ⟨g, 0, none⟩), .int .i64 x] w fun e w' => e = .returned (.tuple #[.int .i64 0, .int .i64 0, .int .i64 0, .bool false]) ∧ Below w.heap.size w w' := by
  have hH0 := Lib.hid hH
  clear hH
  go_enter Try.func20, Try.ntmps20
  go_wp2_with fail
  refine (all_any _).mono ?_
  rintro e w1 ⟨rfl, hb⟩
  have hz : w.heap.size < w1.heap.size := by have := hb.size; simp at this; omega
  have hx : w1.cell? ⟨w.heap.size, 0, none⟩ = some (.int .i64 x) := (hb.cell (by simp)).trans (by simp [go_sem])
  have hH1 := Lib.hid ((hH0.out.below (bl_one _ _)).below hb)
  have hB1 := Lib.hid (bl_then (bl_one _ _) hb)
  clear hb
  go_wp2
  refine wp_loop_rounds 5 ?_
  rw [rounds_succ]
  go_wp2_with fail
  refine (lies_lt_0 x (by omega) _ _ (old_cell (bl_one _ _) hx) (by simp; omega)).mono ?_
  rintro e w2 ⟨rfl, hb2⟩
  have hy := old_cell hb2 (old_cell (bl_one _ _) hx)
  have hz2 : w1.heap.size < w2.heap.size := by have := hb2.size; simp at this; omega
  have hH2 := Lib.hid ((hH1.out.below (bl_one _ _)).below hb2)
  have hB2 := Lib.hid (bl_then (bl_then hB1.out (bl_one _ _)) hb2)
  clear hb2 hx
  have hx := hy
  clear hy
  go_wp2
  rw [rounds_succ]
  go_wp2_with fail
  refine (lies_lt_1 x (by omega) _ _ (old_cell (bl_one _ _) hx) (by simp; omega)).mono ?_
  rintro e w3 ⟨rfl, hb2⟩
  have hy := old_cell hb2 (old_cell (bl_one _ _) hx)
  have hz3 : w2.heap.size < w3.heap.size := by have := hb2.size; simp at this; omega
  have hH3 := Lib.hid ((hH2.out.below (bl_one _ _)).below hb2)
  have hB3 := Lib.hid (bl_then (bl_then hB2.out (bl_one _ _)) hb2)
  clear hb2 hx
  have hx := hy
  clear hy
  go_wp2
  rw [rounds_succ]
  go_wp2_with fail
  refine (lies_lt_2 x (by omega) _ _ (old_cell (bl_one _ _) hx) (by simp; omega)).mono ?_
  rintro e w4 ⟨rfl, hb2⟩
  have hy := old_cell hb2 (old_cell (bl_one _ _) hx)
  have hz4 : w3.heap.size < w4.heap.size := by have := hb2.size; simp at this; omega
  have hH4 := Lib.hid ((hH3.out.below (bl_one _ _)).below hb2)
  have hB4 := Lib.hid (bl_then (bl_then hB3.out (bl_one _ _)) hb2)
  clear hb2 hx
  have hx := hy
  clear hy
  go_wp2
  rw [rounds_succ]
  go_wp2_with fail
  refine (lies_lt_3 x (by omega) _ _ (old_cell (bl_one _ _) hx) (by simp; omega)).mono ?_
  rintro e w5 ⟨rfl, hb2⟩
  have hy := old_cell hb2 (old_cell (bl_one _ _) hx)
  have hz5 : w4.heap.size < w5.heap.size := by have := hb2.size; simp at this; omega
  have hH5 := Lib.hid ((hH4.out.below (bl_one _ _)).below hb2)
  have hB5 := Lib.hid (bl_then (bl_then hB4.out (bl_one _ _)) hb2)
  clear hb2 hx
  have hx := hy
  clear hy
  go_wp2
  rw [rounds_succ]
  go_wp2
  refine bodyPost_ret (results_tmp4 rfl _ _ _) rfl ⟨rfl, hB5.out⟩

set_option maxHeartbeats 2000000 in
set_option maxRecDepth 100000 in
theorem find_hi (x : Int) (h : 273408 ≤ x) (g : Nat) (a : Nat → Nat) (u : Nat → Nat → Bool) (w : World) (hH : HeapAt w g a u) :
    Calls Try.prog 20 #[.pointer (some ⟨g, 0, none⟩), .int .i64 x] w fun e w' => e = .returned (.tuple #[.int .i64 0, .int .i64 0, .int .i64 0, .bool false]) ∧ Below w.heap.size w w' := by
  have hH0 := Lib.hid hH
  clear hH
  go_enter Try.func20, Try.ntmps20
  go_wp2_with fail
  refine (all_any _).mono ?_
  rintro e w1 ⟨rfl, hb⟩
  have hz : w.heap.size < w1.heap.size := by have := hb.size; simp at this; omega
  have hx : w1.cell? ⟨w.heap.size, 0, none⟩ = some (.int .i64 x) := (hb.cell (by simp)).trans (by simp [go_sem])
  have hH1 := Lib.hid ((hH0.out.below (bl_one _ _)).below hb)
  have hB1 := Lib.hid (bl_then (bl_one _ _) hb)
  clear hb
  go_wp2
  refine wp_loop_rounds 5 ?_
  rw [rounds_succ]
  go_wp2_with fail
  refine (lies_ge_0 x (by omega) _ _ (old_cell (bl_one _ _) hx) (by simp; omega)).mono ?_
  rintro e w2 ⟨rfl, hb2⟩
  have hy := old_cell hb2 (old_cell (bl_one _ _) hx)
  have hz2 : w1.heap.size < w2.heap.size := by have := hb2.size; simp at this; omega
  have hH2 := Lib.hid ((hH1.out.below (bl_one _ _)).below hb2)
  have hB2 := Lib.hid (bl_then (bl_then hB1.out (bl_one _ _)) hb2)
  clear hb2 hx
  have hx := hy
  clear hy
  go_wp2
  rw [rounds_succ]
  go_wp2_with fail
  refine (lies_ge_1 x (by omega) _ _ (old_cell (bl_one _ _) hx) (by simp; omega)).mono ?_
  rintro e w3 ⟨rfl, hb2⟩
  have hy := old_cell hb2 (old_cell (bl_one _ _) hx)
  have hz3 : w2.heap.size < w3.heap.size := by have := hb2.size; simp at this; omega
  have hH3 := Lib.hid ((hH2.out.below (bl_one _ _)).below hb2)
  have hB3 := Lib.hid (bl_then (bl_then hB2.out (bl_one _ _)) hb2)
  clear hb2 hx
  have hx := hy
  clear hy
  go_wp2
  rw [rounds_succ]
  go_wp2_with fail
  refine (lies_ge_2 x (by omega) _ _ (old_cell (bl_one _ _) hx) (by simp; omega)).mono ?_
  rintro e w4 ⟨rfl, hb2⟩
  have hy := old_cell hb2 (old_cell (bl_one _ _) hx)
  have hz4 : w3.heap.size < w4.heap.size := by have := hb2.size; simp at this; omega
  have hH4 := Lib.hid ((hH3.out.below (bl_one _ _)).below hb2)
  have hB4 := Lib.hid (bl_then (bl_then hB3.out (bl_one _ _)) hb2)
  clear hb2 hx
  have hx := hy
  clear hy
  go_wp2
  rw [rounds_succ]
  go_wp2_with fail
  refine (lies_ge_3 x (by omega) _ _ (old_cell (bl_one _ _) hx) (by simp; omega)).mono ?_
  rintro e w5 ⟨rfl, hb2⟩
  have hy := old_cell hb2 (old_cell (bl_one _ _) hx)
  have hz5 : w4.heap.size < w5.heap.size := by have := hb2.size; simp at this; omega
  have hH5 := Lib.hid ((hH4.out.below (bl_one _ _)).below hb2)
  have hB5 := Lib.hid (bl_then (bl_then hB4.out (bl_one _ _)) hb2)
  clear hb2 hx
  have hx := hy
  clear hy
  go_wp2
  rw [rounds_succ]
  go_wp2
  refine bodyPost_ret (results_tmp4 rfl _ _ _) rfl ⟨rfl, hB5.out⟩

end Go.Proofs.Ytefkaikedapokaa
