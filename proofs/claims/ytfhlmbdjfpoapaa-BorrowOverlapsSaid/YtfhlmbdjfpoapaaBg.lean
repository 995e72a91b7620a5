/- BorrowOverlaps: the law's walk. -/
import Derived.Test.YtfhlmbdjfpoapaaBf
import Derived.Deep.RegionHeld3
namespace Go.Proofs.Ytfhlmbdjfpoapaa
open Go.RowKit
set_option linter.unusedSimpArgs false
set_option linter.unusedVariables false

def zeroE : Nd := ⟨4, 3, 0, 0, 0⟩
theorem zero_spine (w : World) : Spine w [zeroE] (.agg #[.int .i64 4, .int .i64 0, .int .i64 3, .string { data := #[] }, .slice none 0 0, .slice none 0 0, .int .i64 0, .string { data := #[] }, .int .i64 0, .slice none 0 0]) :=
  ⟨none, 0, 0, { data := #[] }, none, 0, 0, 0, { data := #[] }, 0, none, 0, 0, rfl, fun _ => rfl, fun h => absurd h (Nat.lt_irrefl 0)⟩
theorem zero_ov : ov st1 bad1 [zeroE] [zeroE] = true := by decide
theorem far_small {l : List Nd} (h : far l < 200) : l.length ≤ 1000 := by unfold far at h; omega
attribute [local go_sem ↓] Go.wp_at_zero Go.wp_at_succ
set_option maxHeartbeats 8000000 in
set_option maxRecDepth 100000 in
theorem overlaps_any (la lb : List Nd) (va vb : Value) (W : World) (ha : Spine W la va) (hb : Spine W lb vb) :
    Calls Try.prog 3 #[va, vb] W fun e w' => e = .returned (.bool true) ∧ Below W.heap.size W w' := by
  have HA := Lib.hid ha
  have HB := Lib.hid hb
  obtain ⟨n, ma, hla⟩ : ∃ n m, la = n :: m := by cases la with | nil => exact ha.elim | cons n m => exact ⟨n, m, rfl⟩
  obtain ⟨m, mb, hlb⟩ : ∃ n m, lb = n :: m := by cases lb with | nil => exact hb.elim | cons n m => exact ⟨n, m, rfl⟩
  rw [hla] at ha
  rw [hlb] at hb
  obtain ⟨xA, xcap, xa1, xs3, xA5, xn5, xk5, xa6, xs7, xa8, xA9, xn9, xk9, rfl, xx1, xx2⟩ := ha
  obtain ⟨yA, ycap, ya1, ys3, yA5, yn5, yk5, ya6, ys7, ya8, yA9, yn9, yk9, rfl, yx1, yx2⟩ := hb
  clear xx1 xx2 yx1 yx2 hla hlb
  have hB0 := bl_alloc (bl_one W (.cells #[.int .i64 n.kd, .int .i64 xa1, .int .i64 n.nm, .string xs3, .slice xA n.nk xcap, .slice xA5 xn5 xk5, .int .i64 xa6, .string xs7, .int .i64 xa8, .slice xA9 xn9 xk9] 27)) (.cells #[.int .i64 m.kd, .int .i64 ya1, .int .i64 m.nm, .string ys3, .slice yA m.nk ycap, .slice yA5 yn5 yk5, .int .i64 ya6, .string ys7, .int .i64 ya8, .slice yA9 yn9 yk9] 27)
  have hXa := (Bx.new W (.int .i64 n.kd) (.int .i64 xa1) (.int .i64 n.nm) (.string xs3) (.slice xA n.nk xcap) (.slice xA5 xn5 xk5) (.int .i64 xa6) (.string xs7) (.int .i64 xa8) (.slice xA9 xn9 xk9)).below (bl_one _ (.cells #[.int .i64 m.kd, .int .i64 ya1, .int .i64 m.nm, .string ys3, .slice yA m.nk ycap, .slice yA5 yn5 yk5, .int .i64 ya6, .string ys7, .int .i64 ya8, .slice yA9 yn9 yk9] 27))
  have hXb := Bx.new (W.alloc (.cells #[.int .i64 n.kd, .int .i64 xa1, .int .i64 n.nm, .string xs3, .slice xA n.nk xcap, .slice xA5 xn5 xk5, .int .i64 xa6, .string xs7, .int .i64 xa8, .slice xA9 xn9 xk9] 27)) (.int .i64 m.kd) (.int .i64 ya1) (.int .i64 m.nm) (.string ys3) (.slice yA m.nk ycap) (.slice yA5 yn5 yk5) (.int .i64 ya6) (.string ys7) (.int .i64 ya8) (.slice yA9 yn9 yk9)
  have hsz : ∀ o, (W.alloc o).heap.size = W.heap.size + 1 := fun o => by simp
  rw [hsz] at hXb
  clear hsz
  go_enter Try.func3, Try.ntmps3
  go_wp2_with fail
  have hXa := hXa.below (bl_one _ (.cells #[.int .i64 4, .int .i64 0, .int .i64 3, .string { data := #[] }, .slice none 0 0, .slice none 0 0, .int .i64 0, .string { data := #[] }, .int .i64 0, .slice none 0 0] 27))
  have hXb := hXb.below (bl_one _ (.cells #[.int .i64 4, .int .i64 0, .int .i64 3, .string { data := #[] }, .slice none 0 0, .slice none 0 0, .int .i64 0, .string { data := #[] }, .int .i64 0, .slice none 0 0] 27))
  have hB0 := bl_alloc hB0 (.cells #[.int .i64 4, .int .i64 0, .int .i64 3, .string { data := #[] }, .slice none 0 0, .slice none 0 0, .int .i64 0, .string { data := #[] }, .int .i64 0, .slice none 0 0] 27)
  refine (overlap_any _ _ _ _ _ (zero_spine _) (zero_spine _) (by decide) (by decide)).mono ?_
  rintro e w1 ⟨he, hb1⟩
  rw [zero_ov] at he
  subst he
  have hX1 := hXa.below hb1
  have hY1 := hXb.below hb1
  have hB1 := bl_then hB0 hb1
  clear hXa hXb hB0 hb1
  have hX1' := hX1
  have hY1' := hY1
  obtain ⟨k0, k1, k2, k3, k4, k5, k6, k7, k8, k9, _, _, _, _, _, _, _, _, _, _⟩ := hX1'
  go_wp2_with fail
  refine (far_any la _ _ (HA.out.below hB1)).mono ?_
  rintro e w2 ⟨rfl, hb2⟩
  have hX2 := hX1.below hb2
  have hY2 := hY1.below hb2
  have hB2 := bl_then hB1 hb2
  clear hX1 hY1 hY1' hB1 hb2 k0 k1 k2 k3 k4 k5 k6 k7 k8 k9
  by_cases hfa : far la < 200
  · have hla := far_small hfa
    have d0 : decide ((200 : Int) ≤ (far la : Nat)) = false := decide_eq_false (by omega)
    have hfa' : ((far la : Nat) : Int) < 200 := by omega
    generalize far la = fa at *
    have hY2' := hY2
    obtain ⟨k0, k1, k2, k3, k4, k5, k6, k7, k8, k9, _, _, _, _, _, _, _, _, _, _⟩ := hY2'
    go_wp2_with fail
    refine (far_any lb _ _ (HB.out.below hB2)).mono ?_
    rintro e w3 ⟨rfl, hb3⟩
    have hX3 := hX2.below hb3
    have hY3 := hY2.below hb3
    have hB3 := bl_then hB2 hb3
    clear hX2 hY2 hB2 hb3 k0 k1 k2 k3 k4 k5 k6 k7 k8 k9
    by_cases hfb : far lb < 200
    · have hlb := far_small hfb
      have d1 : decide ((200 : Int) ≤ (far lb : Nat)) = false := decide_eq_false (by omega)
      have hfb' : ((far lb : Nat) : Int) < 200 := by omega
      generalize far lb = fb at *
      go_upto_region 6 with fail
      have hBx := bl_drewN (Below.refl w3.heap.size w3) 1
      have ho1 := ov_same la lb
      have ho2 := ov_same lb la
      have HO1 : ∀ w, Spine w la (.agg #[.int .i64 n.kd, .int .i64 xa1, .int .i64 n.nm, .string xs3, .slice xA n.nk xcap, .slice xA5 xn5 xk5, .int .i64 xa6, .string xs7, .int .i64 xa8, .slice xA9 xn9 xk9]) → Spine w lb (.agg #[.int .i64 m.kd, .int .i64 ya1, .int .i64 m.nm, .string ys3, .slice yA m.nk ycap, .slice yA5 yn5 yk5, .int .i64 ya6, .string ys7, .int .i64 ya8, .slice yA9 yn9 yk9]) → Calls Try.prog 4 #[(.agg #[.int .i64 n.kd, .int .i64 xa1, .int .i64 n.nm, .string xs3, .slice xA n.nk xcap, .slice xA5 xn5 xk5, .int .i64 xa6, .string xs7, .int .i64 xa8, .slice xA9 xn9 xk9]), (.agg #[.int .i64 m.kd, .int .i64 ya1, .int .i64 m.nm, .string ys3, .slice yA m.nk ycap, .slice yA5 yn5 yk5, .int .i64 ya6, .string ys7, .int .i64 ya8, .slice yA9 yn9 yk9])] w fun e w' => e = .returned (.bool (ov st2 bad2 la lb)) ∧ Below w.heap.size w w' := fun w h1 h2 => by rw [← ho1]; exact overlap_any la lb _ _ w h1 h2 hla hlb
      have HO2 : ∀ w, Spine w la (.agg #[.int .i64 n.kd, .int .i64 xa1, .int .i64 n.nm, .string xs3, .slice xA n.nk xcap, .slice xA5 xn5 xk5, .int .i64 xa6, .string xs7, .int .i64 xa8, .slice xA9 xn9 xk9]) → Spine w lb (.agg #[.int .i64 m.kd, .int .i64 ya1, .int .i64 m.nm, .string ys3, .slice yA m.nk ycap, .slice yA5 yn5 yk5, .int .i64 ya6, .string ys7, .int .i64 ya8, .slice yA9 yn9 yk9]) → Calls Try.prog 4 #[(.agg #[.int .i64 m.kd, .int .i64 ya1, .int .i64 m.nm, .string ys3, .slice yA m.nk ycap, .slice yA5 yn5 yk5, .int .i64 ya6, .string ys7, .int .i64 ya8, .slice yA9 yn9 yk9]), (.agg #[.int .i64 n.kd, .int .i64 xa1, .int .i64 n.nm, .string xs3, .slice xA n.nk xcap, .slice xA5 xn5 xk5, .int .i64 xa6, .string xs7, .int .i64 xa8, .slice xA9 xn9 xk9])] w fun e w' => e = .returned (.bool (ov st2 bad2 lb la)) ∧ Below w.heap.size w w' := fun w h1 h2 => by rw [← ho2]; exact overlap_any lb la _ _ w h2 h1 hlb hla
      have HP1 : ∀ w, Spine w la (.agg #[.int .i64 n.kd, .int .i64 xa1, .int .i64 n.nm, .string xs3, .slice xA n.nk xcap, .slice xA5 xn5 xk5, .int .i64 xa6, .string xs7, .int .i64 xa8, .slice xA9 xn9 xk9]) → Spine w lb (.agg #[.int .i64 m.kd, .int .i64 ya1, .int .i64 m.nm, .string ys3, .slice yA m.nk ycap, .slice yA5 yn5 yk5, .int .i64 ya6, .string ys7, .int .i64 ya8, .slice yA9 yn9 yk9]) → Calls Try.prog 6 #[(.agg #[.int .i64 n.kd, .int .i64 xa1, .int .i64 n.nm, .string xs3, .slice xA n.nk xcap, .slice xA5 xn5 xk5, .int .i64 xa6, .string xs7, .int .i64 xa8, .slice xA9 xn9 xk9]), (.agg #[.int .i64 m.kd, .int .i64 ya1, .int .i64 m.nm, .string ys3, .slice yA m.nk ycap, .slice yA5 yn5 yk5, .int .i64 ya6, .string ys7, .int .i64 ya8, .slice yA9 yn9 yk9])] w fun e w' => e = .returned (.bool (ov st2 bad2 la lb)) ∧ Below w.heap.size w w' := fun w h1 h2 => roverlap_any la lb _ _ w h1 h2 hla hlb
      have HP2 : ∀ w, Spine w la (.agg #[.int .i64 n.kd, .int .i64 xa1, .int .i64 n.nm, .string xs3, .slice xA n.nk xcap, .slice xA5 xn5 xk5, .int .i64 xa6, .string xs7, .int .i64 xa8, .slice xA9 xn9 xk9]) → Spine w lb (.agg #[.int .i64 m.kd, .int .i64 ya1, .int .i64 m.nm, .string ys3, .slice yA m.nk ycap, .slice yA5 yn5 yk5, .int .i64 ya6, .string ys7, .int .i64 ya8, .slice yA9 yn9 yk9]) → Calls Try.prog 6 #[(.agg #[.int .i64 m.kd, .int .i64 ya1, .int .i64 m.nm, .string ys3, .slice yA m.nk ycap, .slice yA5 yn5 yk5, .int .i64 ya6, .string ys7, .int .i64 ya8, .slice yA9 yn9 yk9]), (.agg #[.int .i64 n.kd, .int .i64 xa1, .int .i64 n.nm, .string xs3, .slice xA n.nk xcap, .slice xA5 xn5 xk5, .int .i64 xa6, .string xs7, .int .i64 xa8, .slice xA9 xn9 xk9])] w fun e w' => e = .returned (.bool (ov st2 bad2 lb la)) ∧ Below w.heap.size w w' := fun w h1 h2 => roverlap_any lb la _ _ w h2 h1 hlb hla
      have G1 := Lib.hid HO1
      have G2 := Lib.hid HO2
      have G3 := Lib.hid HP1
      have G4 := Lib.hid HP2
      clear HO1 HO2 HP1 HP2 ho1 ho2
      obtain ⟨v1, hv1⟩ : ∃ v, v = ov st2 bad2 la lb := ⟨_, rfl⟩
      obtain ⟨v2, hv2⟩ : ∃ v, v = ov st2 bad2 lb la := ⟨_, rfl⟩
      rw [← hv1] at G1 G3
      rw [← hv2] at G2 G4
      clear hv1 hv2
      go_region_held3 (fun w' => w'.cell? ⟨W.heap.size, 0, none⟩ = some (.int .i64 n.kd) ∧ w'.cell? ⟨W.heap.size, 1, none⟩ = some (.int .i64 xa1) ∧ w'.cell? ⟨W.heap.size, 2, none⟩ = some (.int .i64 n.nm) ∧ w'.cell? ⟨W.heap.size, 3, none⟩ = some (.string xs3) ∧ w'.cell? ⟨W.heap.size, 4, none⟩ = some (.slice xA n.nk xcap) ∧ w'.cell? ⟨W.heap.size, 5, none⟩ = some (.slice xA5 xn5 xk5) ∧ w'.cell? ⟨W.heap.size, 6, none⟩ = some (.int .i64 xa6) ∧ w'.cell? ⟨W.heap.size, 7, none⟩ = some (.string xs7) ∧ w'.cell? ⟨W.heap.size, 8, none⟩ = some (.int .i64 xa8) ∧ w'.cell? ⟨W.heap.size, 9, none⟩ = some (.slice xA9 xn9 xk9) ∧ w'.cell? ⟨W.heap.size + 1, 0, none⟩ = some (.int .i64 m.kd) ∧ w'.cell? ⟨W.heap.size + 1, 1, none⟩ = some (.int .i64 ya1) ∧ w'.cell? ⟨W.heap.size + 1, 2, none⟩ = some (.int .i64 m.nm) ∧ w'.cell? ⟨W.heap.size + 1, 3, none⟩ = some (.string ys3) ∧ w'.cell? ⟨W.heap.size + 1, 4, none⟩ = some (.slice yA m.nk ycap) ∧ w'.cell? ⟨W.heap.size + 1, 5, none⟩ = some (.slice yA5 yn5 yk5) ∧ w'.cell? ⟨W.heap.size + 1, 6, none⟩ = some (.int .i64 ya6) ∧ w'.cell? ⟨W.heap.size + 1, 7, none⟩ = some (.string ys7) ∧ w'.cell? ⟨W.heap.size + 1, 8, none⟩ = some (.int .i64 ya8) ∧ w'.cell? ⟨W.heap.size + 1, 9, none⟩ = some (.slice yA9 yn9 yk9))
        (first | exact ⟨(hX3.below hBx).k0, (hX3.below hBx).k1, (hX3.below hBx).k2, (hX3.below hBx).k3, (hX3.below hBx).k4, (hX3.below hBx).k5, (hX3.below hBx).k6, (hX3.below hBx).k7, (hX3.below hBx).k8, (hX3.below hBx).k9, (hY3.below hBx).k0, (hY3.below hBx).k1, (hY3.below hBx).k2, (hY3.below hBx).k3, (hY3.below hBx).k4, (hY3.below hBx).k5, (hY3.below hBx).k6, (hY3.below hBx).k7, (hY3.below hBx).k8, (hY3.below hBx).k9⟩ | exact ⟨hX3.k0, hX3.k1, hX3.k2, hX3.k3, hX3.k4, hX3.k5, hX3.k6, hX3.k7, hX3.k8, hX3.k9, hY3.k0, hY3.k1, hY3.k2, hY3.k3, hY3.k4, hY3.k5, hY3.k6, hY3.k7, hY3.k8, hY3.k9⟩)
        (first
          | (go_at_call 4; (with_reducible refine (G1.out _ ?_ ?_).mono ?_); (exact HA.out.below (bl_then hB3 hBx)); (exact HB.out.below (bl_then hB3 hBx)); rintro e w' ⟨rfl, hb⟩; replace hBx := bl_then hBx hb; clear hb)
          | (go_at_call 4; (with_reducible refine (G2.out _ ?_ ?_).mono ?_); (exact HA.out.below (bl_then hB3 hBx)); (exact HB.out.below (bl_then hB3 hBx)); rintro e w' ⟨rfl, hb⟩; replace hBx := bl_then hBx hb; clear hb)
          | (go_at_call 6; (with_reducible refine (G3.out _ ?_ ?_).mono ?_); (exact HA.out.below (bl_then hB3 hBx)); (exact HB.out.below (bl_then hB3 hBx)); rintro e w' ⟨rfl, hb⟩; replace hBx := bl_then hBx hb; clear hb)
          | (go_at_call 6; (with_reducible refine (G4.out _ ?_ ?_).mono ?_); (exact HA.out.below (bl_then hB3 hBx)); (exact HB.out.below (bl_then hB3 hBx)); rintro e w' ⟨rfl, hb⟩; replace hBx := bl_then hBx hb; clear hb))
      all_goals
        go_wp2
        go_ret
        exact ⟨rfl, bl_then hB3 hBx⟩
    · have d1 : decide ((200 : Int) ≤ (far lb : Nat)) = true := decide_eq_true (by omega)
      have hfb' : (200 : Int) ≤ ((far lb : Nat) : Int) := by omega
      generalize far lb = fb at *
      go_wp2
      go_ret
      exact ⟨rfl, hB3⟩
  · have d0 : decide ((200 : Int) ≤ (far la : Nat)) = true := decide_eq_true (by omega)
    have hfa' : (200 : Int) ≤ ((far la : Nat) : Int) := by omega
    generalize far la = fa at *
    go_wp2
    go_ret
    exact ⟨rfl, hB2⟩
end Go.Proofs.Ytfhlmbdjfpoapaa
