/- BorrowOverlaps: the contracts of both Overlap; the plain law that they agree. -/
import Derived.Test.YtfhlmbdjfpoapaaBd
namespace Go.Proofs.Ytfhlmbdjfpoapaa
open Go.RowKit
set_option linter.unusedSimpArgs false
set_option linter.unusedVariables false

def bad1 (a b : Int × Int) : Bool := !(a.1 == b.1 && a.2 == b.2) && a.1 == b.1
def bad2 (a b : Int × Int) : Bool := a.1 == b.1 && decide (a.1 ≤ 2) && !(a.2 == b.2)
/-- No two steps at one place part. -/
def along (bad : Int × Int → Int × Int → Bool) : List (Int × Int) → List (Int × Int) → Bool
  | a :: xs, b :: ys => !bad a b && along bad xs ys
  | _, _ => true
theorem along_yes {bad : Int × Int → Int × Int → Bool} : ∀ {xs ys : List (Int × Int)}, (∀ (j : Nat) (a b : Int × Int), xs[j]? = some a → ys[j]? = some b → bad a b = false) → along bad xs ys = true
  | [], _, _ => by simp [along]
  | _ :: _, [], _ => by simp [along]
  | a :: xs, b :: ys, h => by
    unfold along
    rw [h 0 a b rfl rfl, along_yes fun j a b h1 h2 => h (j + 1) a b (by simpa using h1) (by simpa using h2)]
    rfl
theorem along_no {bad : Int × Int → Int × Int → Bool} : ∀ {xs ys : List (Int × Int)} (j : Nat) (a b : Int × Int), xs[j]? = some a → ys[j]? = some b → bad a b = true → along bad xs ys = false
  | a :: xs, b :: ys, 0, p, q, h1, h2, h => by
    simp at h1 h2
    unfold along
    rw [h1, h2, h]; rfl
  | a :: xs, b :: ys, j + 1, p, q, h1, h2, h => by
    unfold along
    rw [along_no j p q (by simpa using h1) (by simpa using h2) h]
    simp
  | [], _, j, p, q, h1, _, _ => by simp at h1
  | _ :: _, [], j, p, q, _, h2, _ => by simp at h2
theorem path_len : ∀ {l p : List Nd} {r : Int}, path l = some (p, r) → p.length ≤ l.length
  | [], _, _, h => by cases h
  | n :: l, p, r, h => by
    rw [path_cons] at h
    by_cases h4 : n.kd = 4
    · rw [if_pos h4] at h; injection h with h; injection h with h1 h2; subst h1; simp
    · rw [if_neg h4] at h
      by_cases hok : okN n
      · rw [if_pos hok] at h
        cases hp : path l with
        | none => rw [hp] at h; cases h
        | some x =>
          obtain ⟨p', r'⟩ := x
          rw [hp] at h
          injection h with h; injection h with h1 h2; subst h1
          have := path_len hp
          simp; omega
      · rw [if_neg hok] at h; cases h
def ov (f : Nd → Int × Int) (bad : Int × Int → Int × Int → Bool) (la lb : List Nd) : Bool :=
  match path la, path lb with
  | some (p, r), some (q, s) => r == s && along bad ((p.map f).reverse) ((q.map f).reverse)
  | _, _ => false

theorem along_next {bad : Int × Int → Int × Int → Bool} {xs ys : List (Int × Int)} {j : Nat} {p q : Int × Int} (h : ∀ (k : Nat) (a b : Int × Int), k < j → xs[k]? = some a → ys[k]? = some b → bad a b = false) (hp : xs[j]? = some p) (hq : ys[j]? = some q) (hn : bad p q = false) :
    ∀ (k : Nat) (a b : Int × Int), k < j + 1 → xs[k]? = some a → ys[k]? = some b → bad a b = false := fun k a b hk h1 h2 => by
  rcases Nat.lt_or_ge k j with hlt | hge
  · exact h k a b hlt h1 h2
  · obtain rfl : k = j := by omega
    rw [hp] at h1; rw [hq] at h2; injection h1 with h1; injection h2 with h2; rw [← h1, ← h2]; exact hn
theorem SPost.form {l : List Nd} {f : Nd → Int × Int} {e : Ending} {w' : World} (h : SPost l f e w') : ∃ r vs ok, e = .returned (.tuple #[.int .i64 r, vs, .bool ok]) ∧ ((ok = true ∧ ∃ p, path l = some (p, r) ∧ Rd w' vs ((p.map f).reverse)) ∨ (ok = false ∧ path l = none)) := by
  rcases h with ⟨p, r, vs, h1, h2, h3⟩ | ⟨h1, r, vs, h2⟩
  · exact ⟨r, vs, true, h2, Or.inl ⟨rfl, p, h1, h3⟩⟩
  · exact ⟨r, vs, false, h2, Or.inr ⟨rfl, h1⟩⟩
theorem SPost2.form {l : List Nd} {e : Ending} {w' : World} (h : SPost2 l e w') : ∃ r vs ok, e = .returned (.tuple #[.int .i64 r, vs, .bool ok]) ∧ ((ok = true ∧ ∃ p, path l = some (p, r) ∧ Rd w' vs ((p.map st2).reverse)) ∨ (ok = false ∧ path l = none)) := by
  obtain ⟨r, vs, ok, xs, h1, h2, _, h3⟩ := h
  refine ⟨r, vs, ok, h1, ?_⟩
  cases hp : path l with
  | none => rw [hp] at h3; exact Or.inr ⟨h3, rfl⟩
  | some x => obtain ⟨p, r'⟩ := x; rw [hp] at h3; obtain ⟨e1, e2, e3⟩ := h3; subst e2 e3; exact Or.inl ⟨e1, p, rfl, h2⟩
theorem ov_none1 {f : Nd → Int × Int} {bad : Int × Int → Int × Int → Bool} {la lb : List Nd} (h : path la = none) : ov f bad la lb = false := by unfold ov; rw [h]
theorem ov_none2 {f : Nd → Int × Int} {bad : Int × Int → Int × Int → Bool} {la lb : List Nd} (h : path lb = none) : ov f bad la lb = false := by unfold ov; rw [h]; cases path la <;> rfl
theorem ov_some {f : Nd → Int × Int} {bad : Int × Int → Int × Int → Bool} {la lb p q : List Nd} {r s : Int} (h : path la = some (p, r)) (h' : path lb = some (q, s)) : ov f bad la lb = (r == s && along bad ((p.map f).reverse) ((q.map f).reverse)) := by unfold ov; rw [h, h']
theorem Rd.form {w : World} {v : Value} {xs : List (Int × Int)} (h : Rd w v xs) : ∃ A c, v = .slice A xs.length c := by
  rcases h with ⟨h1, h2⟩ | ⟨g, cap, h1, _⟩
  · subst h2; exact ⟨none, 0, h1⟩
  · exact ⟨_, cap, h1⟩
theorem Rd.at {w : World} {A : Option Addr} {c : Nat} {xs : List (Int × Int)} (h : Rd w (.slice A xs.length c) xs) {i : Nat} {p : Int × Int} (hp : xs[i]? = some p) : ∃ g, A = some ⟨g, 0, none⟩ ∧ w.cell? ⟨g, i * 2, none⟩ = some (.int .i64 p.1) ∧ w.cell? ⟨g, i * 2 + 1, none⟩ = some (.int .i64 p.2) := by
  rcases h with ⟨_, h2⟩ | ⟨g, cap, h1, _, _, h3⟩
  · subst h2; simp at hp
  · injection h1 with h1; exact ⟨g, h1, h3 i p hp⟩

set_option maxHeartbeats 4000000 in
set_option maxRecDepth 100000 in
theorem overlap_any (la lb : List Nd) (va vb : Value) (w : World) (ha : Spine w la va) (hb : Spine w lb vb) (hla : la.length ≤ 1000) (hlb : lb.length ≤ 1000) :
    Calls Try.prog 4 #[va, vb] w fun e w' => e = .returned (.bool (ov st1 bad1 la lb)) ∧ Below w.heap.size w w' := by
  have HA := Lib.hid ha
  have HB := Lib.hid hb
  obtain ⟨n, m, rfl⟩ : ∃ n m, la = n :: m := by cases la with | nil => exact ha.elim | cons n m => exact ⟨n, m, rfl⟩
  obtain ⟨n', m', rfl⟩ : ∃ n m, lb = n :: m := by cases lb with | nil => exact hb.elim | cons n m => exact ⟨n, m, rfl⟩
  obtain ⟨A, cap, a1, t3, A5, n5, k5, a6, s7, a8, A9, n9, k9, rfl, _, _⟩ := ha
  obtain ⟨B, cbp, b1, u3, B5, m5, j5, b6, r7, b8, B9, m9, j9, rfl, _, _⟩ := hb
  have hB0 := bl_alloc (bl_one w (.cells #[.int .i64 n.kd, .int .i64 a1, .int .i64 n.nm, .string t3, .slice A n.nk cap, .slice A5 n5 k5, .int .i64 a6, .string s7, .int .i64 a8, .slice A9 n9 k9] 27)) (.cells #[.int .i64 n'.kd, .int .i64 b1, .int .i64 n'.nm, .string u3, .slice B n'.nk cbp, .slice B5 m5 j5, .int .i64 b6, .string r7, .int .i64 b8, .slice B9 m9 j9] 27)
  have hX0 := Bx.new (w.alloc (.cells #[.int .i64 n.kd, .int .i64 a1, .int .i64 n.nm, .string t3, .slice A n.nk cap, .slice A5 n5 k5, .int .i64 a6, .string s7, .int .i64 a8, .slice A9 n9 k9] 27)) (.int .i64 n'.kd) (.int .i64 b1) (.int .i64 n'.nm) (.string u3) (.slice B n'.nk cbp) (.slice B5 m5 j5) (.int .i64 b6) (.string r7) (.int .i64 b8) (.slice B9 m9 j9)
  have hsz : ∀ o, (w.alloc o).heap.size = w.heap.size + 1 := fun o => by simp
  rw [hsz] at hX0
  clear hsz
  go_enter Try.func4, Try.ntmps4
  go_wp2_with fail
  refine (steps_any _ _ _ (HA.out.below hB0) hla).mono ?_
  rintro e w1 ⟨hp1, hb1⟩
  obtain ⟨r, vs, ok, rfl, hc1⟩ := hp1.form
  have HC1 := Lib.hid hc1
  have hX1 := hX0.below hb1
  have hB1 := bl_then hB0 hb1
  clear hp1 hc1 hX0
  obtain ⟨k0, k1, k2, k3, k4, k5_, k6, k7, k8, k9_, _, _, _, _, _, _, _, _, _, _⟩ := hX1
  go_wp2_with fail
  refine (steps_any _ _ _ (HB.out.below hB1) hlb).mono ?_
  rintro e w2 ⟨hp2, hb2⟩
  obtain ⟨s, vs', ok', rfl, hc2⟩ := hp2.form
  have HC2 := Lib.hid hc2
  have hB2 := bl_then hB1 hb2
  clear hp2 hc2 k0 k1 k2 k3 k4 k5_ k6 k7 k8 k9_ HA HB hB0 hB1
  rcases HC1.out with ⟨rfl, p, hpa, hr1⟩ | ⟨rfl, hpa⟩
  · rcases HC2.out with ⟨rfl, q, hpb, hr2⟩ | ⟨rfl, hpb⟩
    · by_cases hrs : r = s
      · have hov := ov_some (f := st1) (bad := bad1) hpa hpb
        have b0 : (r == s) = true := beq_iff_eq.2 hrs
        have b1 : (r != s) = false := by simp [hrs]
        rw [b0, Bool.true_and] at hov
        obtain ⟨xs, hxs⟩ : ∃ xs, xs = (p.map st1).reverse := ⟨_, rfl⟩
        obtain ⟨ys, hys⟩ : ∃ ys, ys = (q.map st1).reverse := ⟨_, rfl⟩
        rw [← hxs] at hov hr1
        rw [← hys] at hov hr2
        have hr1 := hr1.below hb2
        obtain ⟨X, cx, rfl⟩ := hr1.form
        obtain ⟨Y, cy, rfl⟩ := hr2.form
        have hlx : xs.length ≤ 1000 := by rw [hxs, List.length_reverse, List.length_map]; have := path_len hpa; omega
        have hly : ys.length ≤ 1000 := by rw [hys, List.length_reverse, List.length_map]; have := path_len hpb; omega
        have HOV := Lib.hid hov
        clear hov hxs hys hpa hpb HC1 HC2 hrs hb1 hb2
        by_cases hmn : xs.length < ys.length
        · have hmn' : (xs.length : Int) < (ys.length : Int) := by omega
          go_wp2
          go_loopw [40] (fun s40 wr => ∃ j : Nat, j ≤ xs.length ∧ s40 = .int .i64 j ∧ Hid (∀ (k : Nat) (a b : Int × Int), k < j → xs[k]? = some a → ys[k]? = some b → bad1 a b = false) ∧ Rd wr (.slice X xs.length cx) xs ∧ Rd wr (.slice Y ys.length cy) ys ∧ Below w.heap.size w wr) (fun s40 _ => xs.length - (intOf s40).toNat)
          case atStart => exact ⟨0, Nat.zero_le _, rfl, (fun k a b hk => absurd hk (Nat.not_lt_zero _)), hr1, hr2, hB2⟩
          case round =>
            obtain ⟨j, hj, rfl, HN, hx, hy, hB⟩ := hrel
            clear hr1 hr2 hB2
            by_cases hlt : j < xs.length
            · have hjx : j < xs.length := by omega
              have hjy : j < ys.length := by omega
              have ha : xs[j]? = some xs[j] := List.getElem?_eq_getElem hjx
              have hb : ys[j]? = some ys[j] := List.getElem?_eq_getElem hjy
              obtain ⟨a, hae⟩ : ∃ a, a = xs[j] := ⟨_, rfl⟩
              obtain ⟨b, hbe⟩ : ∃ b, b = ys[j] := ⟨_, rfl⟩
              rw [← hae] at ha
              rw [← hbe] at hb
              clear hae hbe
              obtain ⟨gx, rfl, x0, x1⟩ := hx.at ha
              obtain ⟨gy, rfl, y0, y1⟩ := hy.at hb
              have HA := Lib.hid ha
              have HB := Lib.hid hb
              clear ha hb
              have i0 : (0 : Int) ≤ (j : Int) := by omega
              have i1 : (j : Int) < (xs.length : Int) := by omega
              have i2 : (j : Int) < (ys.length : Int) := by omega
              obtain ⟨a0, a1_⟩ := a
              obtain ⟨b0, b1_⟩ := b
              by_cases e0 : a0 = b0
              · have t0 : (a0 == b0) = true := beq_iff_eq.2 e0
                by_cases e1 : a1_ = b1_
                · have t1 : (a1_ == b1_) = true := beq_iff_eq.2 e1
                  have hnb : bad1 (a0, a1_) (b0, b1_) = false := by simp [bad1, e0, e1]
                  have HNB := Lib.hid hnb
                  have HN2 : Hid (bad1 (a0, a1_) (b0, b1_) = false → ∀ (k : Nat) (a b : Int × Int), k < j + 1 → xs[k]? = some a → ys[k]? = some b → bad1 a b = false) := Lib.hid (along_next HN.out HA.out HB.out)
                  clear hnb e0 e1
                  go_wp2
                  go_quiet (fail)
                  go_wp2
                  go_roundw
                  case rel => exact ⟨j + 1, by omega, by go_num, HN2.out HNB.out, hx.below (bl_drewN (Below.refl _ _) _), hy.below (bl_drewN (Below.refl _ _) _), bl_drewN hB _⟩
                  case measure => simp [intOf]; omega
                · have t1 : (a1_ == b1_) = false := beq_eq_false_iff_ne.2 e1
                  have hnb : bad1 (a0, a1_) (b0, b1_) = true := by simp [bad1, e0, e1]
                  have HNB := Lib.hid hnb
                  have HN2 : Hid (bad1 (a0, a1_) (b0, b1_) = false → ∀ (k : Nat) (a b : Int × Int), k < j + 1 → xs[k]? = some a → ys[k]? = some b → bad1 a b = false) := Lib.hid (along_next HN.out HA.out HB.out)
                  clear hnb e0 e1
                  go_wp2
                  go_quiet (fail)
                  go_wp2
                  go_ret
                  exact ⟨by rw [HOV.out, along_no j _ _ HA.out HB.out HNB.out]; rfl, bl_drewN hB _⟩
              · have t0 : (a0 == b0) = false := beq_eq_false_iff_ne.2 e0
                have hnb : bad1 (a0, a1_) (b0, b1_) = false := by simp [bad1, e0]
                have HNB := Lib.hid hnb
                have HN2 : Hid (bad1 (a0, a1_) (b0, b1_) = false → ∀ (k : Nat) (a b : Int × Int), k < j + 1 → xs[k]? = some a → ys[k]? = some b → bad1 a b = false) := Lib.hid (along_next HN.out HA.out HB.out)
                clear hnb e0
                go_wp2
                go_quiet (fail)
                go_wp2
                go_roundw
                case rel => exact ⟨j + 1, by omega, by go_num, HN2.out HNB.out, hx.below (bl_drewN (Below.refl _ _) _), hy.below (bl_drewN (Below.refl _ _) _), bl_drewN hB _⟩
                case measure => simp [intOf]; omega
            · have hov : along bad1 xs ys = true := along_yes fun k a b h1 h2 => HN.out k a b (by
                have := (List.getElem?_eq_some_iff.1 h1).1
                have := (List.getElem?_eq_some_iff.1 h2).1
                omega) h1 h2
              have HV := Lib.hid (HOV.out.trans hov)
              clear hov HOV HN
              go_wp2
              go_ret
              exact ⟨by rw [HV.out]; rfl, hB⟩
        · have hmn' : ¬ (xs.length : Int) < (ys.length : Int) := by omega
          have hmn2 : ys.length ≤ xs.length := by omega
          by_cases hmn3 : ys.length < xs.length
          · have hmn4 : (ys.length : Int) < (xs.length : Int) := by omega
            go_wp2
            go_loopw [40] (fun s40 wr => ∃ j : Nat, j ≤ ys.length ∧ s40 = .int .i64 j ∧ Hid (∀ (k : Nat) (a b : Int × Int), k < j → xs[k]? = some a → ys[k]? = some b → bad1 a b = false) ∧ Rd wr (.slice X xs.length cx) xs ∧ Rd wr (.slice Y ys.length cy) ys ∧ Below w.heap.size w wr) (fun s40 _ => ys.length - (intOf s40).toNat)
            case atStart => exact ⟨0, Nat.zero_le _, rfl, (fun k a b hk => absurd hk (Nat.not_lt_zero _)), hr1, hr2, hB2⟩
            case round =>
              obtain ⟨j, hj, rfl, HN, hx, hy, hB⟩ := hrel
              clear hr1 hr2 hB2
              by_cases hlt : j < ys.length
              · have hjx : j < xs.length := by omega
                have hjy : j < ys.length := by omega
                have ha : xs[j]? = some xs[j] := List.getElem?_eq_getElem hjx
                have hb : ys[j]? = some ys[j] := List.getElem?_eq_getElem hjy
                obtain ⟨a, hae⟩ : ∃ a, a = xs[j] := ⟨_, rfl⟩
                obtain ⟨b, hbe⟩ : ∃ b, b = ys[j] := ⟨_, rfl⟩
                rw [← hae] at ha
                rw [← hbe] at hb
                clear hae hbe
                obtain ⟨gx, rfl, x0, x1⟩ := hx.at ha
                obtain ⟨gy, rfl, y0, y1⟩ := hy.at hb
                have HA := Lib.hid ha
                have HB := Lib.hid hb
                clear ha hb
                have i0 : (0 : Int) ≤ (j : Int) := by omega
                have i1 : (j : Int) < (xs.length : Int) := by omega
                have i2 : (j : Int) < (ys.length : Int) := by omega
                obtain ⟨a0, a1_⟩ := a
                obtain ⟨b0, b1_⟩ := b
                by_cases e0 : a0 = b0
                · have t0 : (a0 == b0) = true := beq_iff_eq.2 e0
                  by_cases e1 : a1_ = b1_
                  · have t1 : (a1_ == b1_) = true := beq_iff_eq.2 e1
                    have hnb : bad1 (a0, a1_) (b0, b1_) = false := by simp [bad1, e0, e1]
                    have HNB := Lib.hid hnb
                    have HN2 : Hid (bad1 (a0, a1_) (b0, b1_) = false → ∀ (k : Nat) (a b : Int × Int), k < j + 1 → xs[k]? = some a → ys[k]? = some b → bad1 a b = false) := Lib.hid (along_next HN.out HA.out HB.out)
                    clear hnb e0 e1
                    go_wp2
                    go_quiet (fail)
                    go_wp2
                    go_roundw
                    case rel => exact ⟨j + 1, by omega, by go_num, HN2.out HNB.out, hx.below (bl_drewN (Below.refl _ _) _), hy.below (bl_drewN (Below.refl _ _) _), bl_drewN hB _⟩
                    case measure => simp [intOf]; omega
                  · have t1 : (a1_ == b1_) = false := beq_eq_false_iff_ne.2 e1
                    have hnb : bad1 (a0, a1_) (b0, b1_) = true := by simp [bad1, e0, e1]
                    have HNB := Lib.hid hnb
                    have HN2 : Hid (bad1 (a0, a1_) (b0, b1_) = false → ∀ (k : Nat) (a b : Int × Int), k < j + 1 → xs[k]? = some a → ys[k]? = some b → bad1 a b = false) := Lib.hid (along_next HN.out HA.out HB.out)
                    clear hnb e0 e1
                    go_wp2
                    go_quiet (fail)
                    go_wp2
                    go_ret
                    exact ⟨by rw [HOV.out, along_no j _ _ HA.out HB.out HNB.out]; rfl, bl_drewN hB _⟩
                · have t0 : (a0 == b0) = false := beq_eq_false_iff_ne.2 e0
                  have hnb : bad1 (a0, a1_) (b0, b1_) = false := by simp [bad1, e0]
                  have HNB := Lib.hid hnb
                  have HN2 : Hid (bad1 (a0, a1_) (b0, b1_) = false → ∀ (k : Nat) (a b : Int × Int), k < j + 1 → xs[k]? = some a → ys[k]? = some b → bad1 a b = false) := Lib.hid (along_next HN.out HA.out HB.out)
                  clear hnb e0
                  go_wp2
                  go_quiet (fail)
                  go_wp2
                  go_roundw
                  case rel => exact ⟨j + 1, by omega, by go_num, HN2.out HNB.out, hx.below (bl_drewN (Below.refl _ _) _), hy.below (bl_drewN (Below.refl _ _) _), bl_drewN hB _⟩
                  case measure => simp [intOf]; omega
              · have hov : along bad1 xs ys = true := along_yes fun k a b h1 h2 => HN.out k a b (by
                  have := (List.getElem?_eq_some_iff.1 h1).1
                  have := (List.getElem?_eq_some_iff.1 h2).1
                  omega) h1 h2
                have HV := Lib.hid (HOV.out.trans hov)
                clear hov HOV HN
                go_wp2
                go_ret
                exact ⟨by rw [HV.out]; rfl, hB⟩
          · have hmn4 : ¬ (ys.length : Int) < (xs.length : Int) := by omega
            have hmn5 : xs.length ≤ ys.length := by omega
            go_wp2
            go_loopw [40] (fun s40 wr => ∃ j : Nat, j ≤ xs.length ∧ s40 = .int .i64 j ∧ Hid (∀ (k : Nat) (a b : Int × Int), k < j → xs[k]? = some a → ys[k]? = some b → bad1 a b = false) ∧ Rd wr (.slice X xs.length cx) xs ∧ Rd wr (.slice Y ys.length cy) ys ∧ Below w.heap.size w wr) (fun s40 _ => xs.length - (intOf s40).toNat)
            case atStart => exact ⟨0, Nat.zero_le _, rfl, (fun k a b hk => absurd hk (Nat.not_lt_zero _)), hr1, hr2, hB2⟩
            case round =>
              obtain ⟨j, hj, rfl, HN, hx, hy, hB⟩ := hrel
              clear hr1 hr2 hB2
              by_cases hlt : j < xs.length
              · have hjx : j < xs.length := by omega
                have hjy : j < ys.length := by omega
                have ha : xs[j]? = some xs[j] := List.getElem?_eq_getElem hjx
                have hb : ys[j]? = some ys[j] := List.getElem?_eq_getElem hjy
                obtain ⟨a, hae⟩ : ∃ a, a = xs[j] := ⟨_, rfl⟩
                obtain ⟨b, hbe⟩ : ∃ b, b = ys[j] := ⟨_, rfl⟩
                rw [← hae] at ha
                rw [← hbe] at hb
                clear hae hbe
                obtain ⟨gx, rfl, x0, x1⟩ := hx.at ha
                obtain ⟨gy, rfl, y0, y1⟩ := hy.at hb
                have HA := Lib.hid ha
                have HB := Lib.hid hb
                clear ha hb
                have i0 : (0 : Int) ≤ (j : Int) := by omega
                have i1 : (j : Int) < (xs.length : Int) := by omega
                have i2 : (j : Int) < (ys.length : Int) := by omega
                obtain ⟨a0, a1_⟩ := a
                obtain ⟨b0, b1_⟩ := b
                by_cases e0 : a0 = b0
                · have t0 : (a0 == b0) = true := beq_iff_eq.2 e0
                  by_cases e1 : a1_ = b1_
                  · have t1 : (a1_ == b1_) = true := beq_iff_eq.2 e1
                    have hnb : bad1 (a0, a1_) (b0, b1_) = false := by simp [bad1, e0, e1]
                    have HNB := Lib.hid hnb
                    have HN2 : Hid (bad1 (a0, a1_) (b0, b1_) = false → ∀ (k : Nat) (a b : Int × Int), k < j + 1 → xs[k]? = some a → ys[k]? = some b → bad1 a b = false) := Lib.hid (along_next HN.out HA.out HB.out)
                    clear hnb e0 e1
                    go_wp2
                    go_quiet (fail)
                    go_wp2
                    go_roundw
                    case rel => exact ⟨j + 1, by omega, by go_num, HN2.out HNB.out, hx.below (bl_drewN (Below.refl _ _) _), hy.below (bl_drewN (Below.refl _ _) _), bl_drewN hB _⟩
                    case measure => simp [intOf]; omega
                  · have t1 : (a1_ == b1_) = false := beq_eq_false_iff_ne.2 e1
                    have hnb : bad1 (a0, a1_) (b0, b1_) = true := by simp [bad1, e0, e1]
                    have HNB := Lib.hid hnb
                    have HN2 : Hid (bad1 (a0, a1_) (b0, b1_) = false → ∀ (k : Nat) (a b : Int × Int), k < j + 1 → xs[k]? = some a → ys[k]? = some b → bad1 a b = false) := Lib.hid (along_next HN.out HA.out HB.out)
                    clear hnb e0 e1
                    go_wp2
                    go_quiet (fail)
                    go_wp2
                    go_ret
                    exact ⟨by rw [HOV.out, along_no j _ _ HA.out HB.out HNB.out]; rfl, bl_drewN hB _⟩
                · have t0 : (a0 == b0) = false := beq_eq_false_iff_ne.2 e0
                  have hnb : bad1 (a0, a1_) (b0, b1_) = false := by simp [bad1, e0]
                  have HNB := Lib.hid hnb
                  have HN2 : Hid (bad1 (a0, a1_) (b0, b1_) = false → ∀ (k : Nat) (a b : Int × Int), k < j + 1 → xs[k]? = some a → ys[k]? = some b → bad1 a b = false) := Lib.hid (along_next HN.out HA.out HB.out)
                  clear hnb e0
                  go_wp2
                  go_quiet (fail)
                  go_wp2
                  go_roundw
                  case rel => exact ⟨j + 1, by omega, by go_num, HN2.out HNB.out, hx.below (bl_drewN (Below.refl _ _) _), hy.below (bl_drewN (Below.refl _ _) _), bl_drewN hB _⟩
                  case measure => simp [intOf]; omega
              · have hov : along bad1 xs ys = true := along_yes fun k a b h1 h2 => HN.out k a b (by
                  have := (List.getElem?_eq_some_iff.1 h1).1
                  have := (List.getElem?_eq_some_iff.1 h2).1
                  omega) h1 h2
                have HV := Lib.hid (HOV.out.trans hov)
                clear hov HOV HN
                go_wp2
                go_ret
                exact ⟨by rw [HV.out]; rfl, hB⟩
      · have hov : ov st1 bad1 (n :: m) (n' :: m') = false := by rw [ov_some hpa hpb]; have : (r == s) = false := beq_eq_false_iff_ne.2 hrs; rw [this]; rfl
        have b1 : (r != s) = true := by simp [hrs]
        have HOV := Lib.hid hov
        clear hov hpa hpb HC1 HC2 hr1 hr2 hrs hb1 hb2
        go_wp2
        go_ret
        exact ⟨by rw [HOV.out]; rfl, hB2⟩
    · have HOV := Lib.hid (ov_none2 (f := st1) (bad := bad1) (la := n :: m) hpb)
      clear hpa hpb HC1 HC2 hr1 hb1 hb2
      go_wp2
      go_ret
      exact ⟨by rw [HOV.out]; rfl, hB2⟩
  · have HOV := Lib.hid (ov_none1 (f := st1) (bad := bad1) (lb := n' :: m') hpa)
    clear hpa HC1 HC2 hb1 hb2
    go_wp2
    go_ret
    exact ⟨by rw [HOV.out]; rfl, hB2⟩
end Go.Proofs.Ytfhlmbdjfpoapaa
