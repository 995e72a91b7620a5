/- BorrowOverlaps: rows of steps; the contract of slices.Reverse. -/
import Derived.Test.YtfhlmbdjfpoapaaBa
import Derived.Maps.AppendAt
import Derived.Laws.OwnMore
import Derived.RegionTactic
import Derived.ChangeAlike
import Derived.BigRegion
import Derived.Deep.RegionLaw
namespace Go.Proofs.Ytfhlmbdjfpoapaa
open Go.RowKit
set_option linter.unusedSimpArgs false
set_option linter.unusedVariables false

def pcell (p : Int × Int) : List Value := [.int .i64 p.1, .int .i64 p.2]
def pcells (xs : List (Int × Int)) : List Value := xs.flatMap pcell
theorem pcells_len (L : List (Int × Int)) : (pcells L).length = L.length * 2 := by
  induction L with
  | nil => rfl
  | cons p L ih => simp only [pcells, List.flatMap_cons, List.length_append, List.length_cons] at *; rw [ih]; simp [pcell]; omega
theorem pcells_get (L : List (Int × Int)) : ∀ (i : Nat) (p : Int × Int), L[i]? = some p → (pcells L)[i * 2]? = some (.int .i64 p.1) ∧ (pcells L)[i * 2 + 1]? = some (.int .i64 p.2) := by
  induction L with
  | nil => intro i p h; simp at h
  | cons q L ih =>
    intro i p h
    cases i with
    | zero =>
      simp at h
      subst h
      simp [pcells, List.flatMap_cons, pcell]
    | succ i =>
      have h' : L[i]? = some p := by simpa using h
      obtain ⟨h1, h2⟩ := ih i p h'
      have e : ∀ j, (pcells (q :: L))[j + 2]? = (pcells L)[j]? := fun j => by
        simp only [pcells, List.flatMap_cons]
        rw [List.getElem?_append_right (by simp [pcell])]
        simp [pcell]
      rw [show (i + 1) * 2 = i * 2 + 2 from by omega, show i * 2 + 2 + 1 = (i * 2 + 1) + 2 from by omega, e, e]
      exact ⟨h1, h2⟩
theorem pcells_app (L M : List (Int × Int)) : pcells (L ++ M) = pcells L ++ pcells M := by simp [pcells]
theorem pcells_set (L : List (Int × Int)) : ∀ (i : Nat) (p : Int × Int), i < L.length → ((pcells L).set (i * 2) (.int .i64 p.1)).set (i * 2 + 1) (.int .i64 p.2) = pcells (L.set i p) := by
  induction L with
  | nil => intro i p h; simp at h
  | cons q L ih =>
    intro i p h
    cases i with
    | zero => simp [pcells, List.flatMap_cons, pcell]
    | succ i =>
      have h' : i < L.length := by simpa using h
      rw [show (i + 1) * 2 = i * 2 + 1 + 1 from by omega]
      have := ih i p h'
      simp only [pcells, List.flatMap_cons, pcell, List.cons_append, List.nil_append, List.set_cons_succ, List.set_cons_zero] at this ⊢
      rw [this]

/-- A row of steps of the call's own (e: their type). -/
def Row (w : World) (e : TypeId) (base : Nat) (v : Value) (xs : List (Int × Int)) : Prop := w.ownsRow base e 2 v xs.length (pcells xs)
/-- A slice of steps that can be read. -/
def Rd (w : World) (v : Value) (xs : List (Int × Int)) : Prop :=
  (v = .slice none 0 0 ∧ xs = []) ∨ ∃ g cap, v = .slice (some ⟨g, 0, none⟩) xs.length cap ∧ g < w.heap.size ∧ xs.length ≤ cap ∧ ∀ (i : Nat) (p : Int × Int), xs[i]? = some p → w.cell? ⟨g, i * 2, none⟩ = some (.int .i64 p.1) ∧ w.cell? ⟨g, i * 2 + 1, none⟩ = some (.int .i64 p.2)
theorem Rd.below {w w' : World} {v : Value} {xs : List (Int × Int)} (h : Rd w v xs) (hb : Below w.heap.size w w') : Rd w' v xs := by
  rcases h with h | ⟨g, cap, hv, hg, hc, h⟩
  · exact Or.inl h
  · exact Or.inr ⟨g, cap, hv, Nat.lt_of_lt_of_le hg hb.size, hc, fun i p hp => ⟨old_cell hb (h i p hp).1, old_cell hb (h i p hp).2⟩⟩
theorem Row.rd {w : World} {e : TypeId} {base : Nat} {v : Value} {xs : List (Int × Int)} (h : Row w e base v xs) : Rd w v xs := by
  have h' := h
  obtain ⟨_, h2⟩ := h
  rcases h2 with ⟨h2, h3⟩ | ⟨g, cap, cur, hv, hg, hh, h3, h4, h5, h6⟩
  · exact Or.inl ⟨h2, List.length_eq_zero_iff.1 h3⟩
  · subst hv
    refine Or.inr ⟨g, cap, rfl, (Array.getElem?_eq_some_iff.1 hh).1, h3, fun i p hp => ?_⟩
    have hi : i < xs.length := (List.getElem?_eq_some_iff.1 hp).1
    obtain ⟨e1, e2⟩ := pcells_get xs i p hp
    exact ⟨(h'.cellAt (i * 2) (by omega)).trans e1, (h'.cellAt (i * 2 + 1) (by omega)).trans e2⟩

/-- Rounds of Reverse. -/
def Half (xs ys : List (Int × Int)) (i : Nat) : Prop := ys.length = xs.length ∧ ∀ k, k < xs.length → ys[k]? = if k < i ∨ xs.length - 1 - k < i then xs[xs.length - 1 - k]? else xs[k]?
theorem half_step {xs ys : List (Int × Int)} {i m : Nat} {p q : Int × Int} (h : Half xs ys i) (him : i + m + 1 = xs.length) (hlt : i < m) (hp : ys[i]? = some p) (hq : ys[m]? = some q) : Half xs ((ys.set i q).set m p) (i + 1) := by
  obtain ⟨h1, h2⟩ := h
  refine ⟨by simp [h1], fun k hk => ?_⟩
  have e1 := h2 i (by omega)
  have e2 := h2 m (by omega)
  rw [if_neg (by omega), hp] at e1
  rw [if_neg (by omega), hq] at e2
  rw [List.getElem?_set, List.getElem?_set]
  by_cases c1 : m = k
  · subst c1
    rw [if_pos rfl, if_pos (by simp; omega), if_pos (by omega), e1]
    congr 1; omega
  · rw [if_neg c1]
    by_cases c2 : i = k
    · subst c2
      rw [if_pos rfl, if_pos (by omega), if_pos (by omega), e2]
      congr 1; omega
    · rw [if_neg c2, h2 k hk]
      by_cases c3 : k < i ∨ xs.length - 1 - k < i
      · rw [if_pos c3, if_pos (by omega)]
      · rw [if_neg c3, if_neg (by omega)]
theorem half_end {xs ys : List (Int × Int)} {i m : Nat} (h : Half xs ys i) (him : i + m + 1 = xs.length) (hge : m ≤ i) : ys = xs.reverse := by
  obtain ⟨h1, h2⟩ := h
  apply List.ext_getElem?
  intro k
  by_cases hk : k < xs.length
  · rw [h2 k hk, List.getElem?_reverse hk]
    by_cases c : k < i ∨ xs.length - 1 - k < i
    · rw [if_pos c]
    · rw [if_neg c]; congr 1; omega
  · rw [List.getElem?_eq_none (by omega), List.getElem?_eq_none (by simp; omega)]
theorem half_zero (xs : List (Int × Int)) : Half xs xs 0 := ⟨rfl, fun k _ => by rw [if_neg (by omega)]⟩

theorem grown_refl (w : World) (r : Option Nat) : w.grownBy w r := ⟨rfl, rfl, rfl, Nat.le_refl _, fun _ _ _ => rfl⟩
theorem grown_set {w w1 : World} {g j : Nat} {u : Value} (h : w.grownBy w1 (some g)) : w.grownBy (w1.setCell ⟨g, j, none⟩ u) (some g) :=
  ⟨h.os, h.tape, h.output, by simpa [World.setCell] using h.size, fun k hk hne => (Below.heap_setCell _ _ _ _ (fun e => hne (congrArg some e))).trans (h.block k hk hne)⟩
theorem grown_drew {w w1 : World} {r : Option Nat} (h : w.grownBy w1 r) : w.grownBy w1.drew r := ⟨h.os, h.tape, h.output, h.size, h.block⟩

set_option maxHeartbeats 4000000 in
set_option maxRecDepth 100000 in
theorem reverse_any (base : Nat) (v : Value) (xs : List (Int × Int)) (w : World) (h : Row w 34 base v xs) (hl : xs.length ≤ 1000) :
    Calls Try.prog 9 #[v] w fun e w' => e = .returned (.tuple #[]) ∧ Rd w' v xs.reverse ∧ w.grownBy w' v.ownBlock := by
  by_cases hn : xs = []
  · subst hn
    have hr : Rd w v [] := h.rd
    obtain ⟨A, cap, rfl⟩ : ∃ A cap, v = .slice A 0 cap := by
      rcases hr with ⟨h, _⟩ | ⟨g, cap, h, _⟩
      · exact ⟨none, 0, h⟩
      · exact ⟨_, cap, h⟩
    have HR := Lib.hid hr
    clear hr h
    go_enter Try.func9, Try.ntmps9
    go_wp2
    refine wp_loop_rounds 1 ?_
    rw [rounds_succ]
    go_wp2
    go_end0
    exact ⟨rfl, HR.out, grown_refl _ _⟩
  · obtain ⟨g, cap, rfl⟩ : ∃ g cap, v = .slice (some ⟨g, 0, none⟩) xs.length cap := by
      rcases h.rd with ⟨_, h⟩ | ⟨g, cap, h, _⟩
      · exact absurd h hn
      · exact ⟨g, cap, h⟩
    have hpos : 0 < xs.length := List.length_pos_iff.2 hn
    obtain ⟨n, hn'⟩ : ∃ n, n = xs.length := ⟨_, rfl⟩
    have HN := Lib.hid hn'
    have h0 : Hid (Row w 34 base (.slice (some ⟨g, 0, none⟩) n cap) xs) := by rw [hn']; exact h
    rw [← hn'] at hpos hl
    clear h hn
    rw [← hn']
    clear hn'
    have hg0 := grown_refl w (some g)
    go_enter Try.func9, Try.ntmps9
    go_wp2
    go_loopw [2, 3] (fun s2 s3 wr => ∃ (i m : Nat) (ys : List (Int × Int)), i + m + 1 = n ∧ s2 = .int .i64 i ∧ s3 = .int .i64 m ∧ Hid (Half xs ys i) ∧ Hid (Row wr 34 base (.slice (some ⟨g, 0, none⟩) n cap) ys) ∧ w.grownBy wr (some g)) (fun s2 _ _ => n - (intOf s2).toNat)
    case atStart => exact ⟨0, n - 1, xs, by omega, rfl, by go_num, half_zero xs, h0, hg0⟩
    case round =>
      obtain ⟨i, m, ys, him, rfl, rfl, HH, HR, hG⟩ := hrel
      clear h0 hg0
      by_cases hlt : i < m
      · have hyl : ys.length = n := HH.out.1.trans HN.out.symm
        have hp : ys[i]? = some ys[i] := List.getElem?_eq_getElem (by omega)
        have hq : ys[m]? = some ys[m] := List.getElem?_eq_getElem (by omega)
        obtain ⟨p, hpe⟩ : ∃ p, p = ys[i] := ⟨_, rfl⟩
        obtain ⟨q, hqe⟩ : ∃ q, q = ys[m] := ⟨_, rfl⟩
        rw [← hpe] at hp
        rw [← hqe] at hq
        clear hpe hqe
        have hR := HR.out
        have hR' : wr.ownsRow base 34 2 (.slice (some ⟨g, 0, none⟩) n cap) n (pcells ys) := by unfold Row at hR; rw [hyl] at hR; exact hR
        obtain ⟨ep1, ep2⟩ := pcells_get ys i p hp
        obtain ⟨eq1, eq2⟩ := pcells_get ys m q hq
        have c0 := (hR'.cellAt (i * 2) (by omega)).trans ep1
        have c1 := (hR'.cellAt (i * 2 + 1) (by omega)).trans ep2
        have c2 := (hR'.cellAt (m * 2) (by omega)).trans eq1
        have c3 := (hR'.cellAt (m * 2 + 1) (by omega)).trans eq2
        have f0 := hR'.frozenAt (i * 2)
        have f1 := hR'.frozenAt (i * 2 + 1)
        have f2 := hR'.frozenAt (m * 2)
        have f3 := hR'.frozenAt (m * 2 + 1)
        have HR' := Lib.hid hR'
        have HP := Lib.hid hp
        have HQ := Lib.hid hq
        have HYL := Lib.hid hyl
        clear hR hR' hp hq hyl ep1 ep2 eq1 eq2 HR
        have i0 : (0 : Int) ≤ (i : Int) := by omega
        have i1 : (i : Int) < (n : Int) := by omega
        have m0 : (0 : Int) ≤ (m : Int) := by omega
        have m1 : (m : Int) < (n : Int) := by omega
        have d0 : i * 2 ≠ m * 2 := by omega
        have d1 : i * 2 ≠ m * 2 + 1 := by omega
        have d2 : i * 2 + 1 ≠ m * 2 := by omega
        have d3 : m * 2 ≠ i * 2 := by omega
        have d4 : m * 2 ≠ i * 2 + 1 := by omega
        have d5 : m * 2 + 1 ≠ i * 2 := by omega
        go_wp2
        go_region
        have hz := ((((HR'.out.stored (i * 2) (.int .i64 q.1)).1.stored (i * 2 + 1) (.int .i64 q.2)).1.stored (m * 2) (.int .i64 p.1)).1.stored (m * 2 + 1) (.int .i64 p.2)).1
        rw [pcells_set ys i q (by rw [HYL.out]; omega), pcells_set (ys.set i q) m p (by rw [List.length_set, HYL.out]; omega)] at hz
        have hrow : Row (((((wr.setCell ⟨g, i * 2, none⟩ (.int .i64 q.1)).setCell ⟨g, i * 2 + 1, none⟩ (.int .i64 q.2)).setCell ⟨g, m * 2, none⟩ (.int .i64 p.1)).setCell ⟨g, m * 2 + 1, none⟩ (.int .i64 p.2)).drew) 34 base (.slice (some ⟨g, 0, none⟩) n cap) ((ys.set i q).set m p) := by
          unfold Row; rw [List.length_set, List.length_set, HYL.out]; exact hz
        have hgr := grown_drew (grown_set (j := m * 2 + 1) (u := .int .i64 p.2) (grown_set (j := m * 2) (u := .int .i64 p.1) (grown_set (j := i * 2 + 1) (u := .int .i64 q.2) (grown_set (j := i * 2) (u := .int .i64 q.1) hG))))
        have HS := Lib.hid (half_step HH.out (by rw [← HN.out]; exact him) hlt HP.out HQ.out)
        have HR2 := Lib.hid hrow
        clear hz hrow
        go_wp2
        go_roundw
        case rel => exact ⟨i + 1, m - 1, (ys.set i q).set m p, by omega, by go_num, by go_num, HS, HR2, hgr⟩
        case measure => simp [intOf]; omega
      · have hlt' : m ≤ i := by omega
        go_wp2
        go_end0
        have hh := half_end HH.out (by rw [← HN.out]; exact him) hlt'
        have hr := HR.out.rd
        rw [hh] at hr
        exact ⟨rfl, hr, hG⟩
end Go.Proofs.Ytfhlmbdjfpoapaa
