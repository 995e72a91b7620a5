/- BorrowOverlaps: the contract of ferruleref08.Overlap; the plain law that both agree. -/
import Derived.Test.YtfhlmbdjfpoapaaBe
namespace Go.Proofs.Ytfhlmbdjfpoapaa
open Go.RowKit
set_option linter.unusedSimpArgs false
set_option linter.unusedVariables false

theorem along_congr {b1 b2 : Int × Int → Int × Int → Bool} {f g : Nd → Int × Int} : ∀ {xs ys : List Nd}, (∀ x ∈ xs, ∀ y ∈ ys, b1 (f x) (f y) = b2 (g x) (g y)) → along b1 (xs.map f) (ys.map f) = along b2 (xs.map g) (ys.map g)
  | [], _, _ => by simp [along]
  | _ :: _, [], _ => by simp [along]
  | x :: xs, y :: ys, h => by
    simp only [List.map_cons, along]
    rw [h x (by simp) y (by simp), along_congr fun a ha b hb => h a (by simp [ha]) b (by simp [hb])]
theorem path_ok : ∀ {l p : List Nd} {r : Int}, path l = some (p, r) → ∀ x ∈ p, okN x
  | [], _, _, h => by cases h
  | n :: l, p, r, h => by
    rw [path_cons] at h
    by_cases h4 : n.kd = 4
    · rw [if_pos h4] at h; injection h with h; injection h with h1 h2; subst h1; simp
    · rw [if_neg h4] at h
      by_cases hok : okN n
      · rw [if_pos hok] at h
        cases hp : path l with
        | none => rw [hp] at h; cases h
        | some x =>
          obtain ⟨p', r'⟩ := x
          rw [hp] at h
          injection h with h; injection h with h1 h2; subst h1
          intro x hx
          rcases List.mem_cons.1 hx with e | e
          · rw [e]; exact hok
          · exact path_ok hp x e
      · rw [if_neg hok] at h; cases h
theorem bad_same {a b : Nd} (ha : okN a) (hb : okN b) : bad1 (st1 a) (st1 b) = bad2 (st2 a) (st2 b) := by
  obtain ⟨ha, _⟩ := ha
  obtain ⟨hb, _⟩ := hb
  unfold st1 st2 bad1 bad2
  by_cases c1 : a.kd = 12
  · by_cases d1 : b.kd = 12
    · simp [c1, d1]
    · by_cases d2 : b.kd = 13
      · by_cases d3 : 1 < b.nk ∧ b.sk = 1
        · simp [c1, d1, d2, d3]
        · simp [c1, d1, d2, d3]
      · simp [c1, d1, d2]
  · by_cases c2 : a.kd = 13
    · by_cases c3 : 1 < a.nk ∧ a.sk = 1
      · by_cases d1 : b.kd = 12
        · simp [c1, c2, c3, d1]
        · by_cases d2 : b.kd = 13
          · by_cases d3 : 1 < b.nk ∧ b.sk = 1
            · simp [c1, c2, c3, d1, d2, d3]
            · simp [c1, c2, c3, d1, d2, d3]
          · simp [c1, c2, c3, d1, d2]
      · by_cases d1 : b.kd = 12
        · simp [c1, c2, c3, d1]
        · by_cases d2 : b.kd = 13
          · by_cases d3 : 1 < b.nk ∧ b.sk = 1
            · simp [c1, c2, c3, d1, d2, d3]
            · simp [c1, c2, c3, d1, d2, d3]
          · simp [c1, c2, c3, d1, d2]
    · by_cases d1 : b.kd = 12
      · simp [c1, c2, d1]
      · by_cases d2 : b.kd = 13
        · by_cases d3 : 1 < b.nk ∧ b.sk = 1
          · simp [c1, c2, d1, d2, d3]
          · simp [c1, c2, d1, d2, d3]
        · simp [c1, c2, d1, d2]
theorem ov_same (la lb : List Nd) : ov st1 bad1 la lb = ov st2 bad2 la lb := by
  unfold ov
  cases ha : path la with
  | none => rfl
  | some x =>
    cases hb : path lb with
    | none => rfl
    | some y =>
      obtain ⟨p, r⟩ := x
      obtain ⟨q, s⟩ := y
      simp only
      rw [← List.map_reverse, ← List.map_reverse, ← List.map_reverse, ← List.map_reverse,
        along_congr fun x hx y hy => bad_same (path_ok ha x (List.mem_reverse.1 hx)) (path_ok hb y (List.mem_reverse.1 hy))]

set_option maxHeartbeats 4000000 in
set_option maxRecDepth 100000 in
theorem roverlap_any (la lb : List Nd) (va vb : Value) (w : World) (ha : Spine w la va) (hb : Spine w lb vb) (hla : la.length ≤ 1000) (hlb : lb.length ≤ 1000) :
    Calls Try.prog 6 #[va, vb] w fun e w' => e = .returned (.bool (ov st2 bad2 la lb)) ∧ Below w.heap.size w w' := by
  have HA := Lib.hid ha
  have HB := Lib.hid hb
  obtain ⟨n, m, rfl⟩ : ∃ n m, la = n :: m := by cases la with | nil => exact ha.elim | cons n m => exact ⟨n, m, rfl⟩
  obtain ⟨n', m', rfl⟩ : ∃ n m, lb = n :: m := by cases lb with | nil => exact hb.elim | cons n m => exact ⟨n, m, rfl⟩
  obtain ⟨A, cap, a1, t3, A5, n5, k5, a6, s7, a8, A9, n9, k9, rfl, _, _⟩ := ha
  obtain ⟨B, cbp, b1, u3, B5, m5, j5, b6, r7, b8, B9, m9, j9, rfl, _, _⟩ := hb
  have hB0 := bl_alloc (bl_one w (.cells #[.int .i64 n.kd, .int .i64 a1, .int .i64 n.nm, .string t3, .slice A n.nk cap, .slice A5 n5 k5, .int .i64 a6, .string s7, .int .i64 a8, .slice A9 n9 k9] 27)) (.cells #[.int .i64 n'.kd, .int .i64 b1, .int .i64 n'.nm, .string u3, .slice B n'.nk cbp, .slice B5 m5 j5, .int .i64 b6, .string r7, .int .i64 b8, .slice B9 m9 j9] 27)
  have hX0 := Bx.new (w.alloc (.cells #[.int .i64 n.kd, .int .i64 a1, .int .i64 n.nm, .string t3, .slice A n.nk cap, .slice A5 n5 k5, .int .i64 a6, .string s7, .int .i64 a8, .slice A9 n9 k9] 27)) (.int .i64 n'.kd) (.int .i64 b1) (.int .i64 n'.nm) (.string u3) (.slice B n'.nk cbp) (.slice B5 m5 j5) (.int .i64 b6) (.string r7) (.int .i64 b8) (.slice B9 m9 j9)
  have hsz : ∀ o, (w.alloc o).heap.size = w.heap.size + 1 := fun o => by simp
  rw [hsz] at hX0
  clear hsz
  go_enter Try.func6, Try.ntmps6
  go_wp2_with fail
  refine (rsteps_any _ _ _ (HA.out.below hB0) hla).mono ?_
  rintro e w1 ⟨hp1, hb1⟩
  obtain ⟨r, vs, ok, rfl, hc1⟩ := hp1.form
  have HC1 := Lib.hid hc1
  have hX1 := hX0.below hb1
  have hB1 := bl_then hB0 hb1
  clear hp1 hc1 hX0
  obtain ⟨k0, k1, k2, k3, k4, k5_, k6, k7, k8, k9_, _, _, _, _, _, _, _, _, _, _⟩ := hX1
  go_wp2_with fail
  refine (rsteps_any _ _ _ (HB.out.below hB1) hlb).mono ?_
  rintro e w2 ⟨hp2, hb2⟩
  obtain ⟨s, vs', ok', rfl, hc2⟩ := hp2.form
  have HC2 := Lib.hid hc2
  have hB2 := bl_then hB1 hb2
  clear hp2 hc2 k0 k1 k2 k3 k4 k5_ k6 k7 k8 k9_ HA HB hB0 hB1
  rcases HC1.out with ⟨rfl, p, hpa, hr1⟩ | ⟨rfl, hpa⟩
  · rcases HC2.out with ⟨rfl, q, hpb, hr2⟩ | ⟨rfl, hpb⟩
    · by_cases hrs : r = s
      · have hov := ov_some (f := st2) (bad := bad2) hpa hpb
        have b0 : (r == s) = true := beq_iff_eq.2 hrs
        have b1 : (r != s) = false := by simp [hrs]
        rw [b0, Bool.true_and] at hov
        obtain ⟨xs, hxs⟩ : ∃ xs, xs = (p.map st2).reverse := ⟨_, rfl⟩
        obtain ⟨ys, hys⟩ : ∃ ys, ys = (q.map st2).reverse := ⟨_, rfl⟩
        rw [← hxs] at hov hr1
        rw [← hys] at hov hr2
        have hr1 := hr1.below hb2
        obtain ⟨X, cx, rfl⟩ := hr1.form
        obtain ⟨Y, cy, rfl⟩ := hr2.form
        have hlx : xs.length ≤ 1000 := by rw [hxs, List.length_reverse, List.length_map]; have := path_len hpa; omega
        have hly : ys.length ≤ 1000 := by rw [hys, List.length_reverse, List.length_map]; have := path_len hpb; omega
        have HOV := Lib.hid hov
        clear hov hxs hys hpa hpb HC1 HC2 hrs hb1 hb2
        go_wp2
        go_loopw [11] (fun s40 wr => ∃ j : Nat, j ≤ xs.length ∧ j ≤ ys.length ∧ s40 = .int .i64 j ∧ Hid (∀ (k : Nat) (a b : Int × Int), k < j → xs[k]? = some a → ys[k]? = some b → bad2 a b = false) ∧ Rd wr (.slice X xs.length cx) xs ∧ Rd wr (.slice Y ys.length cy) ys ∧ Below w.heap.size w wr) (fun s40 _ => xs.length - (intOf s40).toNat)
        case atStart => exact ⟨0, Nat.zero_le _, Nat.zero_le _, rfl, (fun k a b hk => absurd hk (Nat.not_lt_zero _)), hr1, hr2, hB2⟩
        case round =>
          obtain ⟨j, hj, hj', rfl, HN, hx, hy, hB⟩ := hrel
          clear hr1 hr2 hB2
          by_cases hlt : j < xs.length ∧ j < ys.length
          · obtain ⟨hjx, hjy⟩ := hlt
            have ha : xs[j]? = some xs[j] := List.getElem?_eq_getElem hjx
            have hb : ys[j]? = some ys[j] := List.getElem?_eq_getElem hjy
            obtain ⟨a, hae⟩ : ∃ a, a = xs[j] := ⟨_, rfl⟩
            obtain ⟨b, hbe⟩ : ∃ b, b = ys[j] := ⟨_, rfl⟩
            rw [← hae] at ha
            rw [← hbe] at hb
            clear hae hbe
            obtain ⟨gx, rfl, x0, x1⟩ := hx.at ha
            obtain ⟨gy, rfl, y0, y1⟩ := hy.at hb
            have HA := Lib.hid ha
            have HB := Lib.hid hb
            clear ha hb
            have i0 : (0 : Int) ≤ (j : Int) := by omega
            have i1 : (j : Int) < (xs.length : Int) := by omega
            have i2 : (j : Int) < (ys.length : Int) := by omega
            have d1 : decide (j < ys.length) = true := decide_eq_true hjy
            obtain ⟨a0, a1_⟩ := a
            obtain ⟨b0, b1_⟩ := b
            by_cases e0 : a0 = b0
            · have t0 : (a0 == b0) = true := beq_iff_eq.2 e0
              by_cases e2 : a0 ≤ 2
              · have t2 : decide (a0 ≤ 2) = true := decide_eq_true e2
                by_cases e1 : a1_ = b1_
                · have t1 : (a1_ == b1_) = true := beq_iff_eq.2 e1
                  have t3 : (a1_ != b1_) = false := by simp [e1]
                  have hnb : bad2 (a0, a1_) (b0, b1_) = false := by simp [bad2, e0, e1]
                  have HNB := Lib.hid hnb
                  have HN2 : Hid (bad2 (a0, a1_) (b0, b1_) = false → ∀ (k : Nat) (a b : Int × Int), k < j + 1 → xs[k]? = some a → ys[k]? = some b → bad2 a b = false) := Lib.hid (along_next HN.out HA.out HB.out)
                  clear hnb e0 e1
                  go_wp2
                  go_quiet (fail)
                  go_wp2
                  go_roundw
                  case rel => exact ⟨j + 1, by omega, by omega, by go_num, HN2.out HNB.out, hx.below (bl_drewN (Below.refl _ _) _), hy.below (bl_drewN (Below.refl _ _) _), bl_drewN hB _⟩
                  case measure => simp [intOf]; omega
                · have t1 : (a1_ == b1_) = false := beq_eq_false_iff_ne.2 e1
                  have t3 : (a1_ != b1_) = true := by simp [e1]
                  have hnb : bad2 (a0, a1_) (b0, b1_) = true := by simp [bad2, ← e0, e1, e2]
                  have HNB := Lib.hid hnb
                  have HN2 : Hid (bad2 (a0, a1_) (b0, b1_) = false → ∀ (k : Nat) (a b : Int × Int), k < j + 1 → xs[k]? = some a → ys[k]? = some b → bad2 a b = false) := Lib.hid (along_next HN.out HA.out HB.out)
                  clear hnb e0 e1
                  go_wp2
                  go_quiet (fail)
                  go_wp2
                  go_ret
                  exact ⟨by rw [HOV.out, along_no j _ _ HA.out HB.out HNB.out]; rfl, bl_drewN hB _⟩
              · have t2 : decide (a0 ≤ 2) = false := decide_eq_false e2
                have hnb : bad2 (a0, a1_) (b0, b1_) = false := by simp [bad2]; intro _ h; exact absurd h e2
                have HNB := Lib.hid hnb
                have HN2 : Hid (bad2 (a0, a1_) (b0, b1_) = false → ∀ (k : Nat) (a b : Int × Int), k < j + 1 → xs[k]? = some a → ys[k]? = some b → bad2 a b = false) := Lib.hid (along_next HN.out HA.out HB.out)
                clear hnb e0
                go_wp2
                go_quiet (fail)
                go_wp2
                go_roundw
                case rel => exact ⟨j + 1, by omega, by omega, by go_num, HN2.out HNB.out, hx.below (bl_drewN (Below.refl _ _) _), hy.below (bl_drewN (Below.refl _ _) _), bl_drewN hB _⟩
                case measure => simp [intOf]; omega
            · have t0 : (a0 == b0) = false := beq_eq_false_iff_ne.2 e0
              have hnb : bad2 (a0, a1_) (b0, b1_) = false := by simp [bad2, e0]
              have HNB := Lib.hid hnb
              have HN2 : Hid (bad2 (a0, a1_) (b0, b1_) = false → ∀ (k : Nat) (a b : Int × Int), k < j + 1 → xs[k]? = some a → ys[k]? = some b → bad2 a b = false) := Lib.hid (along_next HN.out HA.out HB.out)
              clear hnb e0
              go_wp2
              go_quiet (fail)
              go_wp2
              go_roundw
              case rel => exact ⟨j + 1, by omega, by omega, by go_num, HN2.out HNB.out, hx.below (bl_drewN (Below.refl _ _) _), hy.below (bl_drewN (Below.refl _ _) _), bl_drewN hB _⟩
              case measure => simp [intOf]; omega
          · have hov : along bad2 xs ys = true := along_yes fun k a b h1 h2 => HN.out k a b (by
              have := (List.getElem?_eq_some_iff.1 h1).1
              have := (List.getElem?_eq_some_iff.1 h2).1
              omega) h1 h2
            have HV := Lib.hid (HOV.out.trans hov)
            clear hov HOV HN
            by_cases hjx : j < xs.length
            · have hjy : ¬ j < ys.length := by omega
              have d1 : decide (j < ys.length) = false := decide_eq_false hjy
              go_wp2
              go_ret
              exact ⟨by rw [HV.out]; rfl, hB⟩
            · go_wp2
              go_ret
              exact ⟨by rw [HV.out]; rfl, hB⟩
      · have hov : ov st2 bad2 (n :: m) (n' :: m') = false := by rw [ov_some hpa hpb]; have : (r == s) = false := beq_eq_false_iff_ne.2 hrs; rw [this]; rfl
        have b1 : (r != s) = true := by simp [hrs]
        have HOV := Lib.hid hov
        clear hov hpa hpb HC1 HC2 hr1 hr2 hrs hb1 hb2
        go_wp2
        go_ret
        exact ⟨by rw [HOV.out]; rfl, hB2⟩
    · have HOV := Lib.hid (ov_none2 (f := st2) (bad := bad2) (la := n :: m) hpb)
      clear hpa hpb HC1 HC2 hr1 hb1 hb2
      go_wp2
      go_ret
      exact ⟨by rw [HOV.out]; rfl, hB2⟩
  · have HOV := Lib.hid (ov_none1 (f := st2) (bad := bad2) (lb := n' :: m') hpa)
    clear hpa HC1 HC2 hb1 hb2
    go_wp2
    go_ret
    exact ⟨by rw [HOV.out]; rfl, hB2⟩
end Go.Proofs.Ytfhlmbdjfpoapaa
