/- HeapPlays: the law's walk. -/
import Derived.Test.YtefkaikedapokaaRg
import Derived.Deep.DeepCutAuto
import Derived.Deep.CutBlock
namespace Go.Proofs.Ytefkaikedapokaa
open Go.RowKit
set_option linter.unusedSimpArgs false
set_option linter.unusedVariables false

/-- The acts that came in. -/
def Acts (w : World) (A : Option Addr) (n : Nat) (z : Nat → Nat → Int) : Prop :=
  ∀ i, i < n → ∃ b off, A = some ⟨b, off, none⟩ ∧ w.cell? ⟨b, off + i * 4, none⟩ = some (.int .i64 (z i 0)) ∧ w.cell? ⟨b, off + i * 4 + 1, none⟩ = some (.int .i64 (z i 1)) ∧ w.cell? ⟨b, off + i * 4 + 2, none⟩ = some (.int .i64 (z i 2)) ∧ w.cell? ⟨b, off + i * 4 + 3, none⟩ = some (.int .i64 (z i 3))

theorem ints_slice {w : World} {base : Nat} {v : Value} {xs : List Int} (h : Ints w base v xs) : ∃ A cap, v = .slice A xs.length cap := by
  by_cases e : xs = []
  · subst e
    obtain ⟨_, h2⟩ := h
    rcases h2 with ⟨h2, _⟩ | ⟨g, cap, cur, hv, _⟩
    · exact ⟨none, 0, h2⟩
    · exact ⟨_, cap, hv⟩
  · obtain ⟨g, cap, hv, _⟩ := ints_open h e
    exact ⟨_, cap, hv⟩
attribute [local go_sem ↓] Go.wp_at_zero Go.wp_at_succ
set_option maxHeartbeats 4000000 in
set_option maxRecDepth 1000000 in
theorem plays_any (A0 : Option Addr) (n0 cap0 : Nat) (z : Nat → Nat → Int) (W : World) (hz : Acts W A0 n0 z) :
    Calls Try.prog 4 #[.slice A0 n0 cap0] W fun e w' => e = .returned (.bool true) ∧ Below W.heap.size W w' := by
  have HZ := Lib.hid hz
  clear hz
  go_enter Try.func4, Try.ntmps4
  go_wp2_with fail
  refine (new_any _).mono ?_
  rintro e w1 ⟨g, a, rfl, hb1, hg1, ha1, hH1⟩
  have hlg := hH1.lt_g
  have hla := hH1.lt_a
  have HLA := Lib.hid hla
  have HA1 := Lib.hid ha1
  clear hla ha1
  go_wp2_with fail
  refine (names_any _).mono ?_
  rintro e w' ⟨rfl, rfl⟩
  have hlow : Below w1.heap.size w1 (w1.alloc (.cells #[.slice none 0 0] 37)) := bl_one _ _
  have hS0 : Sp W (w1.alloc (.cells #[.slice none 0 0] 37)) w1.heap.size g w1.heap.size a (fun _ _ => false) (.slice none 0 0) [] (.slice none 0 0) [] :=
    ⟨hH1.below hlow, ⟨by simp [go_sem], by simp [go_sem], ⟨rfl, Or.inl ⟨rfl, rfl⟩⟩, (fun e => by cases e), by simp, Nat.le_refl _⟩, ints_nil _ _, (fun b h => by cases h), (fun e => by cases e), bl_then hb1 hlow, hlow.size, hb1.size, hlg, fun k hk => ⟨HLA.out k hk, HA1.out k hk⟩⟩
  clear hb1 hg1 hH1 hlg HLA HA1 hlow
  go_wp2
  generalize w1.heap.size = base at *
  go_loopw [5, 6] (fun s5 s6 wr => ∃ (i : Nat) (told : List Int) (L : List (Nat × Nat)) (u : Nat → Nat → Bool) (v : Value), i ≤ 300 ∧ told.length ≤ i ∧ L.length ≤ i ∧ s6 = .int .i64 i ∧ Ix L u ∧ Sp W wr base g base a u s5 told v L) (fun _ s6 _ => 300 - (intOf s6).toNat)
  case atStart => exact ⟨0, [], [], _, _, by omega, by simp, by simp, rfl, ix_nil, hS0⟩
  case round =>
    obtain ⟨i, told, L, u, v, hi, hlt, hlL, rfl, hI, hS⟩ := hrel
    clear hS0
    obtain ⟨A5, cap5, rfl⟩ := ints_slice hS.told
    by_cases hin : i < n0
    · by_cases h300 : i < 300
      · obtain ⟨bq, oq, rfl, q0, q1, q2, q3⟩ := HZ.out i hin
        have HZ0 : True := trivial
        have q0 := (hS.below.cell (cell_lt q0)).trans q0
        have q1 := (hS.below.cell (cell_lt q1)).trans q1
        have q2 := (hS.below.cell (cell_lt q2)).trans q2
        have q3 := (hS.below.cell (cell_lt q3)).trans q3
        obtain ⟨c0, hc0⟩ : ∃ c0, c0 = z i 0 := ⟨_, rfl⟩
        obtain ⟨c1, hc1⟩ : ∃ c0, c0 = z i 1 := ⟨_, rfl⟩
        obtain ⟨c2, hc2⟩ : ∃ c0, c0 = z i 2 := ⟨_, rfl⟩
        obtain ⟨c3, hc3⟩ : ∃ c0, c0 = z i 3 := ⟨_, rfl⟩
        rw [← hc0] at q0
        rw [← hc1] at q1
        rw [← hc2] at q2
        rw [← hc3] at q3
        clear hc0 hc1 hc2 hc3
        have hS1 := hS.bel (bl_one wr (.cells #[.int .i64 c0, .int .i64 c1, .int .i64 c2, .int .i64 c3] 40))
        have hL1 := Lo.made hS c0 c1 c2 c3
        clear hS
        go_upto_block 2 with fail
        clear q0 q1 q2 q3 HZ0
        generalize wr.alloc (.cells #[.int .i64 c0, .int .i64 c1, .int .i64 c2, .int .i64 c3] 40) = wa at *
        generalize wr.heap.size = ap at *
        go_cut [5, 8] (fun s5 s8 wx => ∃ (at_ : Int) (told' : List Int) (L' : List (Nat × Nat)) (u' : Nat → Nat → Bool) (v' : Value), s8 = .int .i64 at_ ∧ told'.length ≤ i + 1 ∧ L'.length ≤ i + 1 ∧ Ix L' u' ∧ Sp W wx base g base a u' s5 told' v' L' ∧ Lo wx base ap base v' s5 c0 c1 c2 c3)
        case first =>
          have k1 := hL1.k1
          have k2 := hL1.k2
          have k3 := hL1.k3
          have k0 := hL1.k0
          by_cases z0 : c0 = 0
          · have b0 : (c0 == 0) = true := beq_iff_eq.2 z0
            clear z0 k0 k2 k3
            obtain ⟨x, e_, L', u', hA, hI', hl'⟩ := alloc_to hI c1
            go_wp2_with fail
            refine (palloc hA g a _ hS1.heap).mono ?_
            rintro e w3 ⟨rfl, hH3, hB3⟩
            have hS3 := hS1.heaps hB3 hH3
            have hL3 := hL1.heaps hS1 hB3
            clear hS1 hL1 hH3 hB3 k1
            have k1 := hL3.k1
            go_wp2_with fail
            refine (ralloc hA hI base base v _ hS3.ref (by omega) hS3.size).mono ?_
            rintro e w4 ⟨v4, rfl, hR4, hRb4⟩
            have hS4 := hS3.refs hR4 hRb4
            have hL4 := hL3.refs hRb4
            clear hS3 hL3 hR4 hRb4 k1 hA
            go_wp2_with (at_builtin; refine app_two rfl (.tmp 72) (.tmp 74) rfl base _ _ rfl hS4.told _ (by omega) hS4.size rfl ?_; intro v6 w6 hA6; have hS6 := (hS4.bel (bl_one _ _)).app hA6; have hL6 := (hL4.bel (bl_one _ _)).app hA6; clear hS4 hL4 hA6)
            go_meet
            case rel => exact ⟨x, told ++ [x], L', u', v4, rfl, by simp; omega, by omega, hI', hS6, hL6⟩
          · have b0 : (c0 == 0) = false := beq_eq_false_iff_ne.2 z0
            by_cases z1 : c0 = 1
            · have b1 : (c0 == 1) = true := beq_iff_eq.2 z1
              clear z0 z1
              by_cases ht : told = []
              · have hl0 : told.length = 0 := by rw [ht]; rfl
                have d0 : decide (0 < told.length) = false := by simp [ht]
                clear ht hl0
                obtain ⟨e_, L', u', hF, hI', hl'⟩ := free_to hI c3
                go_wp2_with fail
                refine (pfree hF hI g a _ hS1.heap).mono ?_
                rintro e w3 ⟨rfl, hH3, hB3⟩
                have hS3 := hS1.heaps hB3 hH3
                have hL3 := hL1.heaps hS1 hB3
                clear hS1 hL1 hH3 hB3
                go_wp2_with fail
                refine (rfree hF hI base base v _ hS3.ref hS3.size).mono ?_
                rintro e w4 ⟨v4, rfl, hR4, hRb4⟩
                have hS4 := hS3.refs hR4 hRb4
                have hL4 := hL3.refs hRb4
                clear hS3 hL3 hR4 hRb4 hF
                go_wp2_with fail
                go_meet
                case rel => exact ⟨c3, told, L', u', v4, rfl, by omega, by omega, hI', hS4, hL4⟩
              · obtain ⟨g5, cp5, e5, hg5, hgl5, hcp5, _, hget5⟩ := ints_open hS1.told ht
                cases e5
                have hpos : 0 < told.length := List.length_pos_iff.2 ht
                have d0 : decide (0 < told.length) = true := decide_eq_true hpos
                clear ht
                obtain ⟨r, hr⟩ : ∃ r, c2.tmod (told.length : Int) = r := ⟨_, rfl⟩
                have hr0 := Int.lt_tmod_of_pos c2 (show (0 : Int) < (told.length : Int) by omega)
                have hr1 := Int.tmod_lt_of_pos c2 (show (0 : Int) < (told.length : Int) by omega)
                rw [hr] at hr0 hr1
                have hr2 : 0 ≤ r + (told.length : Int) := by omega
                have ht0 := Int.emod_nonneg (r + (told.length : Int)) (show (told.length : Int) ≠ 0 by omega)
                have ht1 := Int.emod_lt_of_pos (r + (told.length : Int)) (show (0 : Int) < (told.length : Int) by omega)
                obtain ⟨T, hT⟩ : ∃ T : Nat, (r + (told.length : Int)) % (told.length : Int) = (T : Int) := ⟨((r + (told.length : Int)) % (told.length : Int)).toNat, (Int.toNat_of_nonneg ht0).symm⟩
                have hT1 : T < told.length := by omega
                clear ht0 ht1 hr0
                have hc6 := hget5 T _ (List.getElem?_eq_getElem hT1)
                generalize told[T] = at_ at hc6
                have HGET := Lib.hid hget5
                clear hget5
                obtain ⟨e_, L', u', hF, hI', hl'⟩ := free_to hI at_
                go_wp2_with fail
                refine (pfree hF hI g a _ hS1.heap).mono ?_
                rintro e w3 ⟨rfl, hH3, hB3⟩
                have hS3 := hS1.heaps hB3 hH3
                have hL3 := hL1.heaps hS1 hB3
                clear hS1 hL1 hH3 hB3
                go_wp2_with fail
                refine (rfree hF hI base base v _ hS3.ref hS3.size).mono ?_
                rintro e w4 ⟨v4, rfl, hR4, hRb4⟩
                have hS4 := hS3.refs hR4 hRb4
                have hL4 := hL3.refs hRb4
                clear hS3 hL3 hR4 hRb4 hF
                go_wp2_with fail
                go_meet
                case rel => exact ⟨at_, told, L', u', v4, rfl, by omega, by omega, hI', hS4, hL4⟩
            · have b1 : (c0 == 1) = false := beq_eq_false_iff_ne.2 z1
              by_cases z2 : c0 = 2
              · have b2 : (c0 == 2) = true := beq_iff_eq.2 z2
                clear z0 z1 z2
                obtain ⟨e_, L', u', hF, hI', hl'⟩ := free_to hI c3
                go_wp2_with fail
                refine (pfree hF hI g a _ hS1.heap).mono ?_
                rintro e w3 ⟨rfl, hH3, hB3⟩
                have hS3 := hS1.heaps hB3 hH3
                have hL3 := hL1.heaps hS1 hB3
                clear hS1 hL1 hH3 hB3
                go_wp2_with fail
                refine (rfree hF hI base base v _ hS3.ref hS3.size).mono ?_
                rintro e w4 ⟨v4, rfl, hR4, hRb4⟩
                have hS4 := hS3.refs hR4 hRb4
                have hL4 := hL3.refs hRb4
                clear hS3 hL3 hR4 hRb4 hF
                go_wp2_with fail
                go_meet
                case rel => exact ⟨c3, told, L', u', v4, rfl, by omega, by omega, hI', hS4, hL4⟩
              · have b2 : (c0 == 2) = false := beq_eq_false_iff_ne.2 z2
                clear z0 z1 z2
                go_wp2_with fail
                go_meet
                case rel => exact ⟨c3, told, L, u, v, rfl, by omega, by omega, hI, hS1, hL1⟩
        case rest =>
          clear hS1 hL1 hI hlt hlL
          obtain ⟨at_, told, L, u, v, rfl, hlt, hlL, hI, hS, hL⟩ := hcut
          obtain ⟨cc, ss, bb, ee, hcv⟩ := class_to c1
          have hpc := pclass c1
          have hrc := rclass c1
          rw [hcv] at hpc hrc
          have HPC := Lib.hid hpc
          have HRC := Lib.hid hrc
          clear hpc hrc hcv
          have k1 := hL.k1
          go_wp2_with fail
          refine (HPC.out _).mono ?_
          rintro e w5 ⟨rfl, hb5⟩
          have hS5 := hS.bel hb5
          have hL5 := hL.bel hb5
          clear hS hL hb5 k1
          have k1 := hL5.k1
          go_wp2_with fail
          refine (HRC.out _).mono ?_
          rintro e w' ⟨rfl, rfl⟩
          clear HPC HRC
          go_upto_region 26 with fail
          have k2 := hL5.k2
          have k3 := hL5.k3
          have hBx := bl_drewN (Below.refl w5.heap.size w5) 1
          go_region_held3 (fun w' => w'.cell? ⟨ap, 1, none⟩ = some (.int .i64 c1) ∧ w'.cell? ⟨ap, 2, none⟩ = some (.int .i64 c2) ∧ w'.cell? ⟨ap, 3, none⟩ = some (.int .i64 c3))
            (first
              | exact ⟨(hL5.bel hBx).k1, (hL5.bel hBx).k2, (hL5.bel hBx).k3⟩
              | exact ⟨hL5.k1, hL5.k2, hL5.k3⟩)
            (first
              | (go_at_call 9; refine (plive hI _ g a _ (hS5.bel hBx).heap).mono ?_; rintro e w' ⟨rfl, rfl⟩)
              | (go_at_call 15; refine (rlive _ base base _ _ (hS5.bel hBx).ref).mono ?_; rintro e w' ⟨rfl, rfl⟩)
              | (go_at_call 16; refine (pwithin hI _ _ g a _ (hS5.bel hBx).heap).mono ?_; rintro e w' ⟨rfl, hb⟩; replace hBx := bl_then hBx hb; clear hb)
              | (go_at_call 17; refine (rwithin hI _ _ base base _ _ (hS5.bel hBx).ref).mono ?_; rintro e w' ⟨rfl, hb⟩; replace hBx := bl_then hBx hb; clear hb))
          all_goals
            have hS6 := hS5.bel hBx
            clear hS5 hL5 hBx k1 k2 k3
            go_wp2
            go_roundw
            case rel => exact ⟨i + 1, told, L, u, v, by omega, by omega, by omega, by go_num, hI, hS6⟩
            case measure => simp [intOf]; omega
      · go_wp2
        go_ret
        exact ⟨rfl, hS.below⟩
    · go_wp2
      go_ret
      exact ⟨rfl, hS.below⟩
end Go.Proofs.Ytefkaikedapokaa
