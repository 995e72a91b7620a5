/- LayoutApart: the contract of Layout. -/
import Derived.Test.YthmdclgihgnjdaaLd
namespace Go.Proofs.Ythmdclgihgnjdaa
open Go.RowKit
set_option linter.unusedSimpArgs false
set_option linter.unusedVariables false

theorem ints_set {w : World} {base : Nat} {v : Value} {xs : List Int} (h : Ints w base v xs) {b j : Nat} (hb : b < base) (u : Value) : Ints ((w.setCell ⟨b, j, none⟩ u).drew) base v xs := ownsRow_setCell_below h hb u
theorem ints_ls {w : World} {base : Nat} {v : Value} {pl : Nat → Bool} {z : Nat → Int} {n : Nat} (h : Ints w base v (ats pl z n)) : ∃ C c, v = .slice C n c ∧ Ls w C n (at_ pl z) := by
  by_cases e : n = 0
  · subst e
    obtain ⟨_, h2⟩ := h
    rcases h2 with ⟨h2, _⟩ | ⟨g, cap, cur, hv, _⟩
    · exact ⟨none, 0, h2, fun i hi => absurd hi (Nat.not_lt_zero _)⟩
    · exact ⟨_, cap, hv, fun i hi => absurd hi (Nat.not_lt_zero _)⟩
  · obtain ⟨g, cap, hv, _, _, _, _, hget⟩ := ints_open h (fun e' => e (by have := ats_len pl z n; rw [e'] at this; simpa using this.symm))
    rw [ats_len] at hv
    exact ⟨_, cap, hv, fun i hi => ⟨g, 0, rfl, by rw [Nat.zero_add]; exact hget i _ (ats_get pl z n i hi)⟩⟩
theorem bits_pl {w : World} {g n : Nat} (h : Bits w g n) : ∃ pl : Nat → Bool, ∀ k, k < n → w.cell? ⟨g, k, none⟩ = some (.bool (pl k)) := by
  refine ⟨fun k => if hk : k < n then Classical.choose (h k hk).1 else false, fun k hk => ?_⟩
  have := Classical.choose_spec (h k hk).1
  simp only [dif_pos hk]
  exact this

set_option maxHeartbeats 4000000 in
set_option maxRecDepth 100000 in
theorem layout_any (s : ByteArray) (A : Option Addr) (n cl : Nat) (z : Nat → Int) (p a : Int) (q : Bool) (B : Option Addr) (nb cb : Nat) (w : World) (hA : Ls w A n z) (hB : Bks w B nb) (hn : n ≤ 100) (hnb : nb ≤ 9223372036854775807) (hz : ∀ k, k < n → z k ≤ 1073741824) :
    Calls Try.prog 4 #[.agg #[.string s, .slice A n cl, .int .i64 p, .int .i64 a, .bool q, .slice B nb cb]] w fun e w' => ∃ v pl, e = .returned (.tuple #[v, .int .i64 (pre pl z n)]) ∧ (∃ C c, v = .slice C n c ∧ Ls w' C n (at_ pl z)) ∧ Below w.heap.size w w' := by
  have HA := Lib.hid hA
  have HB := Lib.hid hB
  have HZ := Lib.hid hz
  clear hA hB hz
  have hb0 := bl_alloc (bl_one w (.cells #[.string s, .slice A n cl, .int .i64 p, .int .i64 a, .bool q, .slice B nb cb] 25)) (.cells #[.int .i64 0] 3)
  have hk1 : ((w.alloc (.cells #[.string s, .slice A n cl, .int .i64 p, .int .i64 a, .bool q, .slice B nb cb] 25)).alloc (.cells #[.int .i64 0] 3)).cell? ⟨w.heap.size, 1, none⟩ = some (.slice A n cl) := old_cell (bl_one _ _) (by simp [go_sem])
  have hkw : ((w.alloc (.cells #[.string s, .slice A n cl, .int .i64 p, .int .i64 a, .bool q, .slice B nb cb] 25)).alloc (.cells #[.int .i64 0] 3)).cell? ⟨w.heap.size + 1, 0, none⟩ = some (.int .i64 0) := by
    simp
  have hfw : ((w.alloc (.cells #[.string s, .slice A n cl, .int .i64 p, .int .i64 a, .bool q, .slice B nb cb] 25)).alloc (.cells #[.int .i64 0] 3)).frozen? ⟨w.heap.size + 1, 0, none⟩ = false := by
    simp
  have hsz : w.heap.size + 1 < ((w.alloc (.cells #[.string s, .slice A n cl, .int .i64 p, .int .i64 a, .bool q, .slice B nb cb] 25)).alloc (.cells #[.int .i64 0] 3)).heap.size := by simp
  go_enter Try.func4, Try.ntmps4
  go_wp2_with fail
  refine (plain_any s A n cl z p a q B nb cb _ (HA.out.below hb0) (HB.out.below hb0) hn hnb).mono ?_
  rintro e w1 ⟨g, c, rfl, hbits, hgs, hgl, hb1⟩
  have hk1 := old_cell hb1 hk1
  have hfw := old_frz hb1 (cell_lt hkw) hfw
  have hkw := old_cell hb1 hkw
  have hB1 := bl_then hb0 hb1
  obtain ⟨pl, hpl⟩ := bits_pl hbits
  have hgs : w.heap.size + 1 < g := by omega
  have hW : Lw w (w1.alloc (.cells #[.slice (some ⟨g, 0, none⟩) n c] 34)) w1.heap.size g n c cl A pl z 0 (.slice none 0 0) :=
    ⟨old_cell (bl_one _ _) hk1, old_cell (bl_one _ _) hkw, old_frz (bl_one _ _) (cell_lt hkw) hfw, by simp [go_sem], fun k hk => old_cell (bl_one _ _) (hpl k hk), ints_nil _ _, bl_then hB1 (bl_one _ _), hgs, hgl, by simp⟩
  clear hk1 hfw hkw hB1 hb1 hb0 hbits hpl hgs hgl hsz
  go_upto_region 2 with fail
  generalize w1.alloc (.cells #[.slice (some ⟨g, 0, none⟩) n c] 34) = w2 at *
  generalize w1.heap.size = pb at *
  have kf := hW.kf
  go_wp2
  clear kf
  go_loopw [2, 13] (fun s2 s13 wr => ∃ j : Nat, j ≤ n ∧ s13 = .int .i64 j ∧ Lw w wr pb g n c cl A pl z j s2) (fun _ s13 _ => n - (intOf s13).toNat)
  case atStart => exact ⟨0, Nat.zero_le _, rfl, hW⟩
  case round =>
    obtain ⟨j, hj, rfl, hL⟩ := hrel
    clear hW
    by_cases hjn : j < n
    · have kb := hL.kb j hjn
      cases hp : pl j with
      | true =>
        rw [hp] at kb
        have HP := Lib.hid hp
        clear hp
        go_wp2_with fail
        refine (place_yes j _ _ _ _ _ _ _ hjn hL.kp kb).mono ?_
        rintro e w' ⟨rfl, rfl⟩
        go_wp2_with (at_builtin; refine app_two rfl (.tmp 16) (.tmp 20) rfl (pb + 1) _ _ rfl hL.row _ (by rw [ats_len]; omega) hL.sz rfl ?_; intro v' w' hA)
        have hL2 := hL.keep v' w' hjn HP.out hA
        go_roundw
        case rel => exact ⟨j + 1, by omega, by go_num, hL2⟩
        case measure => simp [intOf]; omega
      | false =>
        rw [hp] at kb
        have HP := Lib.hid hp
        clear hp
        obtain ⟨b, o, rfl, kz⟩ := HA.out j hjn
        have kz := (hL.below.cell (p := ⟨b, o + j, none⟩) (cell_lt kz)).trans kz
        have hbd := pre_bd pl z j fun k hk => HZ.out k (by omega)
        go_wp2_with fail
        refine (place_no j _ _ _ _ _ _ _ _ _ _ _ _ hjn hL.kp kb hL.kw hL.fw hL.kf kz hbd.1 (by omega) (HZ.out j hjn)).mono ?_
        rintro e w3 ⟨rfl, hw3⟩
        have hrow : Ints w3 (pb + 1) u2 (ats pl z j) := by rw [hw3]; exact ints_set hL.row (by have := hL.b1; have := hL.b2; omega) _
        have hs3 : pb + 1 ≤ w3.heap.size := by rw [hw3]; have := hL.sz; simpa [World.setCell] using this
        have HW3 := Lib.hid hw3
        clear hw3
        go_wp2_with (at_builtin; refine app_two rfl (.tmp 16) (.tmp 20) rfl (pb + 1) _ _ rfl hrow _ (by rw [ats_len]; omega) hs3 rfl ?_; intro v' w' hA)
        have hL2 := hL.set v' w' hjn (by omega) HP.out (by have h := HW3.out; rw [h] at hA; exact hA)
        clear hrow hA hs3 HW3
        go_roundw
        case rel => exact ⟨j + 1, by omega, by go_num, hL2⟩
        case measure => simp [intOf]; omega
    · obtain rfl : j = n := by omega
      have kw := hL.kw
      have fw := hL.fw
      go_wp2
      go_region
      all_goals go_wp2
      all_goals
        refine bodyPost_ret (v := .tuple #[u2, .int .i64 (pre pl z j)]) (by simp [results, Try.results4, go_sem, *]) rfl ⟨_, pl, rfl, ?_, bl_drew (bl_set hL.below (Nat.le_succ _))⟩
        exact ints_ls (ints_set hL.row (by have := hL.b1; have := hL.b2; omega) _)
end Go.Proofs.Ythmdclgihgnjdaa
