/- LayoutApart: the contract of fold.Plain: a row of as many bools as there are locals. -/
import Derived.Test.YthmdclgihgnjdaaLa
namespace Go.Proofs.Ythmdclgihgnjdaa
open Go.RowKit
set_option linter.unusedSimpArgs false
set_option linter.unusedVariables false

/-- A row of n bools that may be written. -/
def Bits (w : World) (g n : Nat) : Prop := ∀ k, k < n → (∃ b, w.cell? ⟨g, k, none⟩ = some (.bool b)) ∧ w.frozen? ⟨g, k, none⟩ = false
theorem Bits.below {w w' : World} {g n : Nat} (h : Bits w g n) (hb : Below w.heap.size w w') : Bits w' g n := fun k hk => by
  obtain ⟨⟨b, h1⟩, h2⟩ := h k hk
  exact ⟨⟨b, old_cell hb h1⟩, old_frz hb (cell_lt h1) h2⟩
theorem Bits.set {w : World} {g n : Nat} (h : Bits w g n) (j : Nat) (b : Bool) : Bits (w.setCell ⟨g, j, none⟩ (.bool b)) g n := fun k hk => by
  obtain ⟨⟨b', h1⟩, h2⟩ := h k hk
  refine ⟨?_, by rw [World.frozen?_setCell]; exact h2⟩
  by_cases e : j = k
  · subst e; exact ⟨b, World.cell?_setCell_same _ _ _ h1⟩
  · exact ⟨b', by rw [World.cell?_setCell_other (h := fun e' => e (by injection e'))]; exact h1⟩
def zb (n : Nat) : Array Value := madeCells #[.bool false] n
theorem zb_get (n i : Nat) (h : i < n) : (zb n)[i]? = some (.bool false) := by
  unfold zb madeCells
  simp [h, Nat.mod_one]
theorem info4 : (Try.prog.info? 4).map (fun i => (i.zero, i.size, i.bytes)) = some (some (.bool false), 1, 1) := by kernel_rfl
theorem mk_any (n : Nat) (h : n ≤ 100) (w : World) : (Instr.makeSlice 34 (.int .i64 (n : Int)) (.int .i64 (n : Int))).run Try.prog w = .ok (.slice (some ⟨w.heap.size, 0, none⟩) n n) (w.alloc (.cells (zb n) 4)) := by
  obtain ⟨i0, hi, hz0, hz1, hz2⟩ := info_parts info4
  have H := run_make (P := Try.prog) w 34 4 i0 (.bool false) Try.underlying34 hi hz0 .i64 .i64 (n : Int) (n : Int) (by omega) (by omega) (by rw [hz2]; omega) (by omega)
  rw [H, hz1]
  simp [Value.cells, zb]
theorem blk_bit {w : World} {b n : Nat} (h : w.heap[b]? = some (.cells (zb n) 4)) {i : Nat} (hi : i < n) : w.cell? ⟨b, i, none⟩ = some (.bool false) := by
  simp [World.cell?, h, zb_get n i hi]
theorem blk_frz {w : World} {b n : Nat} (h : w.heap[b]? = some (.cells (zb n) 4)) {i : Nat} : w.frozen? ⟨b, i, none⟩ = false := by
  simp [World.frozen?, h]
theorem Bits.new (w : World) (n : Nat) : Bits (w.alloc (.cells (zb n) 4)) w.heap.size n := fun k hk =>
  ⟨⟨false, blk_bit (heap_alloc_new w (.cells (zb n) 4)) hk⟩, blk_frz (heap_alloc_new w (.cells (zb n) 4))⟩
structure Mi (w wr : World) (g n : Nat) (A B : Option Addr) (cl nb cb : Nat) : Prop where
  k1 : wr.cell? ⟨w.heap.size, 1, none⟩ = some (.slice A n cl)
  k5 : wr.cell? ⟨w.heap.size, 5, none⟩ = some (.slice B nb cb)
  bits : Bits wr g n
  below : Below w.heap.size w wr
  lt : w.heap.size < g
  gl : g < wr.heap.size
theorem Mi.bel {w wr w' : World} {g n : Nat} {A B : Option Addr} {cl nb cb : Nat} (h : Mi w wr g n A B cl nb cb) (hb : Below wr.heap.size wr w') : Mi w w' g n A B cl nb cb :=
  ⟨old_cell hb h.k1, old_cell hb h.k5, h.bits.below hb, bl_then h.below hb, h.lt, Nat.lt_of_lt_of_le h.gl hb.size⟩
theorem Mi.set {w wr : World} {g n : Nat} {A B : Option Addr} {cl nb cb : Nat} (h : Mi w wr g n A B cl nb cb) (j : Nat) (b : Bool) : Mi w (wr.setCell ⟨g, j, none⟩ (.bool b)) g n A B cl nb cb := by
  have hne : g ≠ w.heap.size := by have := h.lt; omega
  refine ⟨?_, ?_, h.bits.set j b, bl_set h.below (by have := h.lt; omega), h.lt, by simpa [World.setCell] using h.gl⟩
  · rw [World.cell?_setCell_other (h := fun e => hne (by injection e))]; exact h.k1
  · rw [World.cell?_setCell_other (h := fun e => hne (by injection e))]; exact h.k5

theorem ptrs_set {w wr : World} {PA : Option Addr} {g pm : Nat} (h : ∀ i, i < pm → ∃ g' b' o', PA = some ⟨g', 0, none⟩ ∧ g < g' ∧ wr.cell? ⟨g', i, none⟩ = some (.pointer (some ⟨b', o', none⟩)) ∧ Pl w b' o') (j : Nat) {u : Value} :
    ∀ i, i < pm → ∃ g' b' o', PA = some ⟨g', 0, none⟩ ∧ g < g' ∧ (wr.setCell ⟨g, j, none⟩ u).cell? ⟨g', i, none⟩ = some (.pointer (some ⟨b', o', none⟩)) ∧ Pl w b' o' := fun i hi => by
  obtain ⟨g', b', o', e1, e2, e3, e4⟩ := h i hi
  refine ⟨g', b', o', e1, e2, ?_, e4⟩
  rw [World.cell?_setCell_other (h := fun e => by injection e with e; omega)]; exact e3
set_option maxHeartbeats 8000000 in
set_option maxRecDepth 100000 in
theorem plain_any (s : ByteArray) (A : Option Addr) (n cl : Nat) (z : Nat → Int) (p a : Int) (q : Bool) (B : Option Addr) (nb cb : Nat) (w : World) (hA : Ls w A n z) (hB : Bks w B nb) (hn : n ≤ 100) (hnb : nb ≤ 9223372036854775807) :
    Calls Try.prog 7 #[.agg #[.string s, .slice A n cl, .int .i64 p, .int .i64 a, .bool q, .slice B nb cb]] w fun e w' => ∃ g c, e = .returned (.slice (some ⟨g, 0, none⟩) n c) ∧ Bits w' g n ∧ w.heap.size ≤ g ∧ g < w'.heap.size ∧ Below w.heap.size w w' := by
  have hmk := mk_any n hn
  have HA := Lib.hid hA
  have HB := Lib.hid hB
  have HMK := Lib.hid hmk
  clear hA hB
  have hb0 := bl_alloc (bl_one w (.cells #[.string s, .slice A n cl, .int .i64 p, .int .i64 a, .bool q, .slice B nb cb] 25)) (.cells (zb n) 4)
  have hk1 : ((w.alloc (.cells #[.string s, .slice A n cl, .int .i64 p, .int .i64 a, .bool q, .slice B nb cb] 25)).alloc (.cells (zb n) 4)).cell? ⟨w.heap.size, 1, none⟩ = some (.slice A n cl) := old_cell (bl_one _ _) (by simp [go_sem])
  have hk5 : ((w.alloc (.cells #[.string s, .slice A n cl, .int .i64 p, .int .i64 a, .bool q, .slice B nb cb] 25)).alloc (.cells (zb n) 4)).cell? ⟨w.heap.size, 5, none⟩ = some (.slice B nb cb) := old_cell (bl_one _ _) (by simp [go_sem])
  have hbt := Bits.new (w.alloc (.cells #[.string s, .slice A n cl, .int .i64 p, .int .i64 a, .bool q, .slice B nb cb] 25)) n
  have hsz : ∀ o, (w.alloc o).heap.size = w.heap.size + 1 := fun o => by simp
  rw [hsz] at hbt
  clear hsz
  go_enter Try.func7, Try.ntmps7
  go_upto_region 2 with fail
  have hM0 : Mi w ((w.alloc (.cells #[.string s, .slice A n cl, .int .i64 p, .int .i64 a, .bool q, .slice B nb cb] 25)).alloc (.cells (zb n) 4)) (w.heap.size + 1) n A B cl nb cb := ⟨hk1, hk5, hbt, hb0, Nat.lt_succ_self _, by simp⟩
  clear hk1 hk5 hbt hb0 hmk
  obtain ⟨g, hg⟩ : ∃ g, g = w.heap.size + 1 := ⟨_, rfl⟩
  generalize (w.alloc (.cells #[.string s, .slice A n cl, .int .i64 p, .int .i64 a, .bool q, .slice B nb cb] 25)).alloc (.cells (zb n) 4) = wa at *
  rw [← hg] at hM0 ⊢
  have hgb : w.heap.size ≤ g := by omega
  clear hg
  have k1 := hM0.k1
  go_wp2
  clear k1
  go_loopw [17] (fun s17 wr => ∃ j : Nat, j ≤ n ∧ s17 = .int .i64 j ∧ Mi w wr g n A B cl nb cb) (fun s17 _ => n - (intOf s17).toNat)
  case atStart => exact ⟨0, Nat.zero_le _, rfl, hM0⟩
  case round =>
    obtain ⟨j, hj, rfl, hM⟩ := hrel
    clear hM0
    by_cases hjn : j < n
    · obtain ⟨b, o, rfl, q0⟩ := HA.out j hjn
      have q0 := (hM.below.cell (p := ⟨b, o + j, none⟩) (cell_lt q0)).trans q0
      obtain ⟨⟨bb, c0⟩, f0⟩ := hM.bits j hjn
      have i0 : (0 : Int) ≤ (j : Int) := by omega
      have i1 : (j : Int) < (n : Int) := by omega
      go_wp2
      go_roundw
      case rel => exact ⟨j + 1, by omega, by go_num, hM.set j _⟩
      case measure => simp [intOf]; omega
    · have k5 := hM.k5
      go_wp2
      clear k5
      obtain ⟨wo, rfl⟩ : ∃ wo : World, wo = wr := ⟨_, rfl⟩
      go_loopw [31] (fun s31 wr => ∃ j : Nat, j ≤ nb ∧ s31 = .int .i64 j ∧ Mi w wr g n A B cl nb cb) (fun s31 _ => nb - (intOf s31).toNat)
      case atStart => exact ⟨0, Nat.zero_le _, rfl, hM⟩
      case round =>
        obtain ⟨j2, hj2, rfl, hM2⟩ := hrel
        clear hM
        by_cases hjn2 : j2 < nb
        · obtain ⟨bb, bo, rfl, C, m, cc, x0w, hmm, hins⟩ := HB.out j2 hjn2
          have x0 := (hM2.below.cell (p := ⟨bb, bo + j2 * 7, none⟩) (cell_lt x0w)).trans x0w
          have HX := Lib.hid x0w
          clear x0w
          have HI := Lib.hid hins
          clear hins
          have k5 := hM2.k5
          have i0 : (0 : Int) ≤ (j2 : Int) := by omega
          have i1 : (j2 : Int) < (nb : Int) := by omega
          go_wp2
          clear k5 x0
          obtain ⟨wo2, hwo2⟩ : ∃ wo : World, wo = wr := ⟨_, rfl⟩
          subst hwo2
          go_loopw [41] (fun s41 wr => ∃ i : Nat, i ≤ m ∧ s41 = .int .i64 i ∧ Mi w wr g n A (some ⟨bb, bo, none⟩) cl nb cb) (fun s41 _ => m - (intOf s41).toNat)
          case atStart => exact ⟨0, Nat.zero_le _, rfl, hM2⟩
          case round =>
            obtain ⟨i, hi, rfl, hM3⟩ := hrel
            clear hM2
            by_cases him : i < m
            · obtain ⟨ib, io, rfl, hIns⟩ := HI.out i him
              have x0 := (hM3.below.cell (p := ⟨bb, bo + j2 * 7, none⟩) (cell_lt HX.out)).trans HX.out
              have k5 := hM3.k5
              have i2 : (0 : Int) ≤ (i : Int) := by omega
              have i3 : (i : Int) < (m : Int) := by omega
              go_wp2_with fail
              refine (places_any w _ _ _ hIns hM3.below).mono ?_
              rintro e w3 ⟨v, rfl, ⟨PA, pm, pc, rfl, hpm2, hptrs⟩, hb3⟩
              have hM3' := hM3.bel hb3
              have hgl : g < wr.heap.size := hM3.gl
              clear hM3 hb3 k5 x0 hIns
              have HPT0 : Hid (∀ i, i < pm → ∃ g' b' o', PA = some ⟨g', 0, none⟩ ∧ g < g' ∧ w3.cell? ⟨g', i, none⟩ = some (.pointer (some ⟨b', o', none⟩)) ∧ Pl w b' o') := Lib.hid (fun i hi => by obtain ⟨g', b', o', e1, e2, e3, e4⟩ := hptrs i hi; exact ⟨g', b', o', e1, by omega, e3, e4⟩)
              clear hgl
              clear hptrs
              go_wp2
              obtain ⟨wo3, hwo3⟩ : ∃ wo : World, wo = w3 := ⟨_, rfl⟩
              subst hwo3
              go_loopw [54] (fun s54 wr => ∃ t : Nat, t ≤ pm ∧ s54 = .int .i64 t ∧ Mi w wr g n A (some ⟨bb, bo, none⟩) cl nb cb ∧ Hid (∀ i, i < pm → ∃ g' b' o', PA = some ⟨g', 0, none⟩ ∧ g < g' ∧ wr.cell? ⟨g', i, none⟩ = some (.pointer (some ⟨b', o', none⟩)) ∧ Pl w b' o')) (fun s54 _ => pm - (intOf s54).toNat)
              case atStart => exact ⟨0, Nat.zero_le _, rfl, hM3', HPT0⟩
              case round =>
                obtain ⟨t, ht, rfl, hM4, hPw⟩ := hrel
                clear hM3' HPT0
                by_cases htm : t < pm
                · obtain ⟨pg, pb, po, rfl, hpg, q0, hpl⟩ := hPw.out t htm
                  have hpl := hpl.below hM4.below
                  obtain ⟨lc, S, sm, sc, p0, p1, p2⟩ := hpl
                  have HP2 := Lib.hid p2
                  clear p2
                  have i0 : (0 : Int) ≤ (t : Int) := by omega
                  have i1 : (t : Int) < (pm : Int) := by omega
                  by_cases hs : sm = 0
                  · have s0 : (sm == 0) = true := beq_iff_eq.2 hs
                    have s1 : ((sm : Int) == 0) = true := beq_iff_eq.2 (by omega)
                    clear hs
                    by_cases hlc : 0 ≤ lc
                    · have d0 : decide (0 ≤ lc) = true := decide_eq_true hlc
                      obtain ⟨lcn, rfl⟩ := Int.eq_ofNat_of_zero_le hlc
                      by_cases hlt : lcn < n
                      · have d1 : decide (lcn < n) = true := decide_eq_true hlt
                        obtain ⟨⟨bb, c0⟩, f0⟩ := hM4.bits lcn hlt
                        have j0 : (0 : Int) ≤ (lcn : Int) := by omega
                        have j1 : (lcn : Int) < (n : Int) := by omega
                        go_wp2
                        go_roundw
                        case rel => exact ⟨t + 1, by omega, by go_num, hM4.set lcn _, ptrs_set hPw.out lcn⟩
                        case measure => simp [intOf]; omega
                      · have d1 : decide (lcn < n) = false := decide_eq_false hlt
                        go_wp2
                        go_roundw
                        case rel => exact ⟨t + 1, by omega, by go_num, hM4, hPw⟩
                        case measure => simp [intOf]; omega
                    · have d0 : decide (0 ≤ lc) = false := decide_eq_false hlc
                      go_wp2
                      go_roundw
                      case rel => exact ⟨t + 1, by omega, by go_num, hM4, hPw⟩
                      case measure => simp [intOf]; omega
                  · have s0 : (sm == 0) = false := beq_eq_false_iff_ne.2 hs
                    have s1 : ((sm : Int) == 0) = false := beq_eq_false_iff_ne.2 (by omega)
                    have hsp : 0 < sm := by omega
                    obtain ⟨sb, so, sk, rfl, r0⟩ := HP2.out hsp
                    have i2 : (0 : Int) < (sm : Int) := by omega
                    clear hs
                    by_cases hk : sk = 3
                    · have b3 : (sk == 3) = true := beq_iff_eq.2 hk
                      have b4 : (sk != 3) = false := by simp [hk]
                      clear hk
                      go_wp2
                      go_roundw
                      case rel => exact ⟨t + 1, by omega, by go_num, hM4, hPw⟩
                      case measure => simp [intOf]; omega
                    · have b3 : (sk == 3) = false := beq_eq_false_iff_ne.2 hk
                      have b4 : (sk != 3) = true := by simp [hk]
                      clear hk
                      by_cases hlc : 0 ≤ lc
                      · have d0 : decide (0 ≤ lc) = true := decide_eq_true hlc
                        obtain ⟨lcn, rfl⟩ := Int.eq_ofNat_of_zero_le hlc
                        by_cases hlt : lcn < n
                        · have d1 : decide (lcn < n) = true := decide_eq_true hlt
                          obtain ⟨⟨bb, c0⟩, f0⟩ := hM4.bits lcn hlt
                          have j0 : (0 : Int) ≤ (lcn : Int) := by omega
                          have j1 : (lcn : Int) < (n : Int) := by omega
                          go_wp2
                          go_roundw
                          case rel => exact ⟨t + 1, by omega, by go_num, hM4.set lcn _, ptrs_set hPw.out lcn⟩
                          case measure => simp [intOf]; omega
                        · have d1 : decide (lcn < n) = false := decide_eq_false hlt
                          go_wp2
                          go_roundw
                          case rel => exact ⟨t + 1, by omega, by go_num, hM4, hPw⟩
                          case measure => simp [intOf]; omega
                      · have d0 : decide (0 ≤ lc) = false := decide_eq_false hlc
                        go_wp2
                        go_roundw
                        case rel => exact ⟨t + 1, by omega, by go_num, hM4, hPw⟩
                        case measure => simp [intOf]; omega
                · go_wp2
                  go_roundw
                  case rel => exact ⟨i + 1, by omega, by go_num, hM4⟩
                  case measure => simp [intOf]; omega
            · go_wp2
              go_roundw
              case rel => exact ⟨j2 + 1, by omega, by go_num, hM3⟩
              case measure => simp [intOf]; omega
        · go_wp2
          go_ret
          exact ⟨g, n, rfl, hM2.bits, hgb, hM2.gl, hM2.below⟩
end Go.Proofs.Ythmdclgihgnjdaa
