/- LayoutApart: the law's walk. -/
import Derived.Test.YthmdclgihgnjdaaLe
namespace Go.Proofs.Ythmdclgihgnjdaa
open Go.RowKit
set_option linter.unusedSimpArgs false
set_option linter.unusedVariables false

structure Lx (w wr : World) (s : ByteArray) (A : Option Addr) (n cl : Nat) (p a : Int) (q : Bool) (B : Option Addr) (nb cb : Nat) : Prop where
  k0 : wr.cell? ⟨w.heap.size, 0, none⟩ = some (.string s)
  k1 : wr.cell? ⟨w.heap.size, 1, none⟩ = some (.slice A n cl)
  k2 : wr.cell? ⟨w.heap.size, 2, none⟩ = some (.int .i64 p)
  k3 : wr.cell? ⟨w.heap.size, 3, none⟩ = some (.int .i64 a)
  k4 : wr.cell? ⟨w.heap.size, 4, none⟩ = some (.bool q)
  k5 : wr.cell? ⟨w.heap.size, 5, none⟩ = some (.slice B nb cb)
  below : Below w.heap.size w wr
theorem Lx.bel {w wr w' : World} {s : ByteArray} {A : Option Addr} {n cl : Nat} {p a : Int} {q : Bool} {B : Option Addr} {nb cb : Nat} (h : Lx w wr s A n cl p a q B nb cb) (hb : Below wr.heap.size wr w') : Lx w w' s A n cl p a q B nb cb :=
  ⟨old_cell hb h.k0, old_cell hb h.k1, old_cell hb h.k2, old_cell hb h.k3, old_cell hb h.k4, old_cell hb h.k5, bl_then h.below hb⟩
theorem Lx.new (w : World) (s : ByteArray) (A : Option Addr) (n cl : Nat) (p a : Int) (q : Bool) (B : Option Addr) (nb cb : Nat) : Lx w (w.alloc (.cells #[.string s, .slice A n cl, .int .i64 p, .int .i64 a, .bool q, .slice B nb cb] 25)) s A n cl p a q B nb cb :=
  ⟨by simp [go_sem], by simp [go_sem], by simp [go_sem], by simp [go_sem], by simp [go_sem], by simp [go_sem], bl_one _ _⟩

theorem pre_nn (pl : Nat → Bool) (z : Nat → Int) (k : Nat) : 0 ≤ pre pl z k := by
  have := pre_mono pl z 0 k (Nat.zero_le _)
  exact this
theorem at_k (pl : Nat → Bool) (z : Nat → Int) (k i : Nat) (h : k < i) : at_ pl z k = -1 ∨ (0 ≤ at_ pl z k ∧ at_ pl z k + mx (z k) ≤ pre pl z i) := by
  unfold at_
  cases hp : pl k with
  | true => exact Or.inl rfl
  | false =>
    refine Or.inr ⟨pre_nn pl z k, ?_⟩
    have h1 := pre_mono pl z (k + 1) i (by omega)
    have h2 : pre pl z (k + 1) = pre pl z k + mx (z k) := by show (if pl k then _ else _) = _; rw [hp]; rfl
    show pre pl z k + mx (z k) ≤ _
    omega
set_option maxHeartbeats 1500000 in
set_option maxRecDepth 100000 in
theorem apart_any (s : ByteArray) (A : Option Addr) (n cl : Nat) (z : Nat → Int) (p a : Int) (q : Bool) (B : Option Addr) (nb cb : Nat) (x : Int) (w : World) (hA : Ls w A n z) (hB : Bks w B nb) (hn : n ≤ 9223372036854775807) (hnb : nb ≤ 9223372036854775807) :
    Calls Try.prog 3 #[.agg #[.string s, .slice A n cl, .int .i64 p, .int .i64 a, .bool q, .slice B nb cb], .int .i64 x] w fun e w' => e = .returned (.bool true) ∧ Below w.heap.size w w' := by
  have HA := Lib.hid hA
  have HB := Lib.hid hB
  have hX0 := Lx.new w s A n cl p a q B nb cb
  clear hA hB
  by_cases h100 : n ≤ 100
  case neg =>
    have i0 : (100 : Int) < (n : Int) := by omega
    have i1 : decide (100 < n) = true := decide_eq_true (by omega)
    go_enter Try.func3, Try.ntmps3
    go_wp2
    go_ret
    exact ⟨rfl, hX0.below⟩
  have i0 : ¬ (100 : Int) < (n : Int) := by omega
  have i1 : decide (100 < n) = false := decide_eq_false (by omega)
  go_enter Try.func3, Try.ntmps3
  go_upto_region 3 with fail
  generalize w.alloc (.cells #[.string s, .slice A n cl, .int .i64 p, .int .i64 a, .bool q, .slice B nb cb] 25) = wa at *
  go_wp2
  go_loopw [5] (fun s5 wr => ∃ j : Nat, j ≤ n ∧ s5 = .int .i64 j ∧ Lx w wr s A n cl p a q B nb cb ∧ Hid (∀ k, k < j → z k ≤ 1073741824)) (fun s5 _ => n - (intOf s5).toNat)
  case atStart => exact ⟨0, Nat.zero_le _, rfl, hX0, fun k hk => absurd hk (Nat.not_lt_zero _)⟩
  case round =>
    obtain ⟨j, hj, rfl, hX, HZ⟩ := hrel
    clear hX0
    have k1 := hX.k1
    by_cases hjn : j < n
    · obtain ⟨b, o, rfl, q0⟩ := HA.out j hjn
      have q0 := (hX.below.cell (p := ⟨b, o + j, none⟩) (cell_lt q0)).trans q0
      have j0 : (0 : Int) ≤ (j : Int) := by omega
      have j1 : (j : Int) < (n : Int) := by omega
      by_cases hbig : z j ≤ 1073741824
      · have d0 : decide (1073741824 < z j) = false := decide_eq_false (by omega)
        have HZ2 : Hid (∀ k, k < j + 1 → z k ≤ 1073741824) := Lib.hid (fun k hk => by
          rcases Nat.lt_or_ge k j with h | h
          · exact HZ.out k h
          · have : k = j := by omega
            subst this; exact hbig)
        go_wp2
        go_roundw
        case rel => exact ⟨j + 1, by omega, by go_num, hX, HZ2⟩
        case measure => simp [intOf]; omega
      · have d0 : decide (1073741824 < z j) = true := decide_eq_true (by omega)
        go_wp2
        go_ret
        exact ⟨rfl, hX.below⟩
    · obtain rfl : j = n := by omega
      have k0 := hX.k0
      have k2 := hX.k2
      have k3 := hX.k3
      have k4 := hX.k4
      have k5 := hX.k5
      go_wp2_with fail
      refine (layout_any s A j cl z p a q B nb cb _ (HA.out.below hX.below) (HB.out.below hX.below) h100 hnb HZ.out).mono ?_
      rintro e w1 ⟨v, pl, rfl, ⟨C, c, rfl, hC⟩, hb1⟩
      have hX1 := hX.bel hb1
      clear k0 k1 k2 k3 k4 k5 hX hb1
      have hbd := pre_bd pl z j HZ.out
      have k1 := hX1.k1
      have d0 : decide (pre pl z j < 0) = false := decide_eq_false (by omega)
      go_wp2
      clear k1
      obtain ⟨W, hW⟩ : ∃ W, W = pre pl z j := ⟨_, rfl⟩
      rw [← hW] at hbd d0 ⊢
      have HW := Lib.hid hW
      clear hW d0
      go_loopw [8] (fun s8 wr => ∃ i : Nat, i ≤ j ∧ s8 = .int .i64 i ∧ Lx w wr s A j cl p a q B nb cb ∧ Ls wr C j (at_ pl z)) (fun s8 _ => j - (intOf s8).toNat)
      case atStart => exact ⟨0, Nat.zero_le _, rfl, hX1, hC⟩
      case round =>
        obtain ⟨i, hij, rfl, hX2, hC2⟩ := hrel
        clear hX1 hC
        by_cases hi : i < j
        · obtain ⟨cg, co, rfl, c0⟩ := hC2 i hi
          obtain ⟨b, o, rfl, z0⟩ := HA.out i hi
          have z0 := (hX2.below.cell (p := ⟨b, o + i, none⟩) (cell_lt z0)).trans z0
          have k1 := hX2.k1
          have j0 : (0 : Int) ≤ (i : Int) := by omega
          have j1 : (i : Int) < (j : Int) := by omega
          cases hp : pl i with
          | true =>
            have hm : at_ pl z i = -1 := by unfold at_; rw [hp]; rfl
            rw [hm] at c0
            clear hm hp
            go_wp2
            go_roundw
            case rel => exact ⟨i + 1, by omega, by go_num, hX2, hC2⟩
            case measure => simp [intOf]; omega
          | false =>
            have hm : at_ pl z i = pre pl z i := by unfold at_; rw [hp]; rfl
            rw [hm] at c0
            have hPW : pre pl z i + mx (z i) ≤ W := by
              rw [HW.out]
              have h1 := pre_mono pl z (i + 1) j (by omega)
              have h2 : pre pl z (i + 1) = pre pl z i + mx (z i) := by show (if pl i then _ else _) = _; rw [hp]; rfl
              omega
            have hP0 := (pre_bd pl z i fun k hk => HZ.out k (by omega)).1
            have hzi2 := HZ.out i hi
            obtain ⟨P, hPe⟩ : ∃ P, P = pre pl z i := ⟨_, rfl⟩
            obtain ⟨Zi, hZe⟩ : ∃ Zi, Zi = z i := ⟨_, rfl⟩
            have HAT : Hid (at_ pl z i = P) := Lib.hid (hm.trans hPe.symm)
            have HPI : Hid (pre pl z i = P) := Lib.hid hPe.symm
            have HZI : Hid (z i = Zi) := Lib.hid hZe.symm
            rw [← hPe] at c0 hPW hP0
            rw [← hZe] at z0 hPW hzi2
            clear hPe hZe hm hp
            have d0 : decide (P < 0) = false := decide_eq_false (by omega)
            have d0' : ¬ P < 0 := by omega
            by_cases hzi : Zi < 0
            · skip
              have hsum : P ≤ W := by have := hPW; rw [mx_neg hzi] at this; omega
              have d1 : decide (W < P) = false := decide_eq_false (by omega)
              clear hPW
              go_wp2
              go_region
              go_wp2
              clear c0 z0
              go_loopw [9] (fun s9 wr => ∃ k : Nat, k ≤ i ∧ s9 = .int .i64 k ∧ Lx w wr s (some ⟨b, o, none⟩) j cl p a q B nb cb ∧ Ls wr (some ⟨cg, co, none⟩) j (at_ pl z)) (fun s9 _ => i - (intOf s9).toNat)
              case atStart => exact ⟨0, Nat.zero_le _, rfl, hX2.bel (bl_drew (Below.refl _ _)), hC2.below (bl_drew (Below.refl _ _))⟩
              case round =>
                obtain ⟨k, hk, rfl, hX3, hC3⟩ := hrel
                clear hX2 hC2
                by_cases hki : k < i
                · obtain ⟨_, _, e_, c0⟩ := hC3 k (by omega)
                  cases e_
                  obtain ⟨_, _, e_, c1⟩ := hC3 i hi
                  cases e_
                  obtain ⟨_, _, e_, z0⟩ := HA.out k (by omega)
                  cases e_
                  obtain ⟨_, _, e_, z1⟩ := HA.out i hi
                  cases e_
                  have z0 := (hX3.below.cell (p := ⟨b, o + k, none⟩) (cell_lt z0)).trans z0
                  have z1 := (hX3.below.cell (p := ⟨b, o + i, none⟩) (cell_lt z1)).trans z1
                  rw [HAT.out] at c1
                  rw [HZI.out] at z1
                  have k1 := hX3.k1
                  have m0 : (0 : Int) ≤ (k : Int) := by omega
                  have m1 : (k : Int) < (j : Int) := by omega
                  have m2 : (0 : Int) ≤ (i : Int) := by omega
                  have m3 : (i : Int) < (j : Int) := by omega
                  have hpk := at_k pl z k i hki
                  have hzk2 := HZ.out k (by omega)
                  obtain ⟨Zk, hZk⟩ : ∃ Zk, Zk = z k := ⟨_, rfl⟩
                  obtain ⟨Pk, hPk⟩ : ∃ Pk, Pk = at_ pl z k := ⟨_, rfl⟩
                  rw [← hZk] at z0 hzk2 hpk
                  rw [← hPk] at c0 hpk
                  rw [HPI.out] at hpk
                  clear hZk hPk
                  rcases hpk with hpk | ⟨hpk, hk2⟩
                  · have d0 : decide (0 ≤ Pk) = false := decide_eq_false (by omega)
                    go_wp2
                    go_quiet (fail)
                    go_wp2
                    go_roundw
                    case rel => exact ⟨k + 1, by omega, by go_num, hX3.bel (bl_drewN (Below.refl _ _) _), hC3.below (bl_drewN (Below.refl _ _) _)⟩
                    case measure => simp [intOf]; omega
                  · have d0 : decide (0 ≤ Pk) = true := decide_eq_true hpk
                    by_cases hzk : Zk < 0
                    · skip
                      have hle : Pk ≤ P := by have := hk2; rw [mx_neg hzk] at this; omega
                      by_cases hlt : Pk < P
                      · have d1 : decide (Pk < P) = true := decide_eq_true hlt
                        have d2 : decide (P < Pk) = false := decide_eq_false (by omega)
                        clear hk2
                        go_wp2
                        go_quiet (fail)
                        go_wp2
                        go_roundw
                        case rel => exact ⟨k + 1, by omega, by go_num, hX3.bel (bl_drewN (Below.refl _ _) _), hC3.below (bl_drewN (Below.refl _ _) _)⟩
                        case measure => simp [intOf]; omega
                      · have d1 : decide (Pk < P) = false := decide_eq_false hlt
                        clear hk2
                        go_wp2
                        go_quiet (fail)
                        go_wp2
                        go_roundw
                        case rel => exact ⟨k + 1, by omega, by go_num, hX3.bel (bl_drewN (Below.refl _ _) _), hC3.below (bl_drewN (Below.refl _ _) _)⟩
                        case measure => simp [intOf]; omega
                    · have hzk : 0 ≤ Zk := by omega
                      have hle : Pk + Zk ≤ P := by have := hk2; rw [mx_nn hzk] at this; omega
                      by_cases hlt : Pk < P
                      · have d1 : decide (Pk < P) = true := decide_eq_true hlt
                        have d2 : decide (P < Pk + Zk) = false := decide_eq_false (by omega)
                        clear hk2
                        go_wp2
                        go_quiet (fail)
                        go_wp2
                        go_roundw
                        case rel => exact ⟨k + 1, by omega, by go_num, hX3.bel (bl_drewN (Below.refl _ _) _), hC3.below (bl_drewN (Below.refl _ _) _)⟩
                        case measure => simp [intOf]; omega
                      · have d1 : decide (Pk < P) = false := decide_eq_false hlt
                        clear hk2
                        go_wp2
                        go_quiet (fail)
                        go_wp2
                        go_roundw
                        case rel => exact ⟨k + 1, by omega, by go_num, hX3.bel (bl_drewN (Below.refl _ _) _), hC3.below (bl_drewN (Below.refl _ _) _)⟩
                        case measure => simp [intOf]; omega
                · go_wp2
                  go_roundw
                  case rel => exact ⟨i + 1, by omega, by go_num, hX3, hC3⟩
                  case measure => simp [intOf]; omega
            · have hzi : 0 ≤ Zi := by omega
              have hsum : P + Zi ≤ W := by have := hPW; rw [mx_nn hzi] at this; omega
              have d1 : decide (W < P + Zi) = false := decide_eq_false (by omega)
              clear hPW
              go_wp2
              go_region
              go_wp2
              clear c0 z0
              go_loopw [9] (fun s9 wr => ∃ k : Nat, k ≤ i ∧ s9 = .int .i64 k ∧ Lx w wr s (some ⟨b, o, none⟩) j cl p a q B nb cb ∧ Ls wr (some ⟨cg, co, none⟩) j (at_ pl z)) (fun s9 _ => i - (intOf s9).toNat)
              case atStart => exact ⟨0, Nat.zero_le _, rfl, hX2.bel (bl_drew (Below.refl _ _)), hC2.below (bl_drew (Below.refl _ _))⟩
              case round =>
                obtain ⟨k, hk, rfl, hX3, hC3⟩ := hrel
                clear hX2 hC2
                by_cases hki : k < i
                · obtain ⟨_, _, e_, c0⟩ := hC3 k (by omega)
                  cases e_
                  obtain ⟨_, _, e_, c1⟩ := hC3 i hi
                  cases e_
                  obtain ⟨_, _, e_, z0⟩ := HA.out k (by omega)
                  cases e_
                  obtain ⟨_, _, e_, z1⟩ := HA.out i hi
                  cases e_
                  have z0 := (hX3.below.cell (p := ⟨b, o + k, none⟩) (cell_lt z0)).trans z0
                  have z1 := (hX3.below.cell (p := ⟨b, o + i, none⟩) (cell_lt z1)).trans z1
                  rw [HAT.out] at c1
                  rw [HZI.out] at z1
                  have k1 := hX3.k1
                  have m0 : (0 : Int) ≤ (k : Int) := by omega
                  have m1 : (k : Int) < (j : Int) := by omega
                  have m2 : (0 : Int) ≤ (i : Int) := by omega
                  have m3 : (i : Int) < (j : Int) := by omega
                  have hpk := at_k pl z k i hki
                  have hzk2 := HZ.out k (by omega)
                  obtain ⟨Zk, hZk⟩ : ∃ Zk, Zk = z k := ⟨_, rfl⟩
                  obtain ⟨Pk, hPk⟩ : ∃ Pk, Pk = at_ pl z k := ⟨_, rfl⟩
                  rw [← hZk] at z0 hzk2 hpk
                  rw [← hPk] at c0 hpk
                  rw [HPI.out] at hpk
                  clear hZk hPk
                  rcases hpk with hpk | ⟨hpk, hk2⟩
                  · have d0 : decide (0 ≤ Pk) = false := decide_eq_false (by omega)
                    go_wp2
                    go_quiet (fail)
                    go_wp2
                    go_roundw
                    case rel => exact ⟨k + 1, by omega, by go_num, hX3.bel (bl_drewN (Below.refl _ _) _), hC3.below (bl_drewN (Below.refl _ _) _)⟩
                    case measure => simp [intOf]; omega
                  · have d0 : decide (0 ≤ Pk) = true := decide_eq_true hpk
                    by_cases hzk : Zk < 0
                    · skip
                      have hle : Pk ≤ P := by have := hk2; rw [mx_neg hzk] at this; omega
                      by_cases hlt : Pk < P + Zi
                      · have d1 : decide (Pk < P + Zi) = true := decide_eq_true hlt
                        have d2 : decide (P < Pk) = false := decide_eq_false (by omega)
                        clear hk2
                        go_wp2
                        go_quiet (fail)
                        go_wp2
                        go_roundw
                        case rel => exact ⟨k + 1, by omega, by go_num, hX3.bel (bl_drewN (Below.refl _ _) _), hC3.below (bl_drewN (Below.refl _ _) _)⟩
                        case measure => simp [intOf]; omega
                      · have d1 : decide (Pk < P + Zi) = false := decide_eq_false hlt
                        clear hk2
                        go_wp2
                        go_quiet (fail)
                        go_wp2
                        go_roundw
                        case rel => exact ⟨k + 1, by omega, by go_num, hX3.bel (bl_drewN (Below.refl _ _) _), hC3.below (bl_drewN (Below.refl _ _) _)⟩
                        case measure => simp [intOf]; omega
                    · have hzk : 0 ≤ Zk := by omega
                      have hle : Pk + Zk ≤ P := by have := hk2; rw [mx_nn hzk] at this; omega
                      by_cases hlt : Pk < P + Zi
                      · have d1 : decide (Pk < P + Zi) = true := decide_eq_true hlt
                        have d2 : decide (P < Pk + Zk) = false := decide_eq_false (by omega)
                        clear hk2
                        go_wp2
                        go_quiet (fail)
                        go_wp2
                        go_roundw
                        case rel => exact ⟨k + 1, by omega, by go_num, hX3.bel (bl_drewN (Below.refl _ _) _), hC3.below (bl_drewN (Below.refl _ _) _)⟩
                        case measure => simp [intOf]; omega
                      · have d1 : decide (Pk < P + Zi) = false := decide_eq_false hlt
                        clear hk2
                        go_wp2
                        go_quiet (fail)
                        go_wp2
                        go_roundw
                        case rel => exact ⟨k + 1, by omega, by go_num, hX3.bel (bl_drewN (Below.refl _ _) _), hC3.below (bl_drewN (Below.refl _ _) _)⟩
                        case measure => simp [intOf]; omega
                · go_wp2
                  go_roundw
                  case rel => exact ⟨i + 1, by omega, by go_num, hX3, hC3⟩
                  case measure => simp [intOf]; omega
        · have hu := up_bd x
          have hl := low_bd x
          have hpt := parts x
          go_wp2_with fail
          refine (split_any x _).mono ?_
          rintro e w' ⟨rfl, rfl⟩
          obtain ⟨U, hU⟩ : ∃ U, U = upOf x := ⟨_, rfl⟩
          obtain ⟨V, hV⟩ : ∃ V, V = lowOf x := ⟨_, rfl⟩
          rw [← hU, ← hV] at hpt
          rw [← hU] at hu
          rw [← hV] at hl
          rw [← hU, ← hV]
          clear hU hV
          have d0 : decide (0 ≤ U) = true := decide_eq_true hu.1
          have d1 : decide (U < 1048576) = true := decide_eq_true hu.2
          go_wp2_with fail
          refine (fits_any V hl.1 hl.2.1 _).mono ?_
          rintro e w' ⟨rfl, rfl⟩
          have hfin : ((U * 4096 + V) % 4294967296 == x % 4294967296) = true := beq_iff_eq.2 (by omega)
          clear hpt
          go_wp2
          go_ret
          exact ⟨rfl, hX2.below⟩
end Go.Proofs.Ythmdclgihgnjdaa
