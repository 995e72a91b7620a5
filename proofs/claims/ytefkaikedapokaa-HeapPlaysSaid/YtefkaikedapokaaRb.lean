/- Contracts of the reference heap: find, Live; its blocks as a row of structs. -/
import Derived.Test.YtefkaikedapokaaRa
namespace Go.Proofs.Ytefkaikedapokaa
open Go.RowKit
set_option linter.unusedSimpArgs false
set_option linter.unusedVariables false

/-- A block's three cells. -/
def bcell (p : Nat × Nat) : List Value := [.int .i64 (addr p.1 p.2 : Nat), .int .i64 (p.1 : Nat), .int .i64 (sz p.1 : Nat)]
def bcells (L : List (Nat × Nat)) : List Value := L.flatMap bcell
theorem bcells_len (L : List (Nat × Nat)) : (bcells L).length = L.length * 3 := by
  induction L with
  | nil => rfl
  | cons p L ih => simp only [bcells, List.flatMap_cons, List.length_append, List.length_cons] at *; rw [ih]; simp [bcell]; omega
theorem bcells_get (L : List (Nat × Nat)) : ∀ (i : Nat) (p : Nat × Nat), L[i]? = some p → (bcells L)[i * 3]? = some (.int .i64 (addr p.1 p.2 : Nat)) ∧ (bcells L)[i * 3 + 1]? = some (.int .i64 (p.1 : Nat)) ∧ (bcells L)[i * 3 + 2]? = some (.int .i64 (sz p.1 : Nat)) := by
  induction L with
  | nil => intro i p h; simp at h
  | cons q L ih =>
    intro i p h
    cases i with
    | zero =>
      simp at h
      subst h
      simp [bcells, List.flatMap_cons, bcell]
    | succ i =>
      have h' : L[i]? = some p := by simpa using h
      obtain ⟨h1, h2, h3⟩ := ih i p h'
      have e : ∀ j, (bcells (q :: L))[j + 3]? = (bcells L)[j]? := fun j => by
        simp only [bcells, List.flatMap_cons]
        rw [List.getElem?_append_right (by simp [bcell])]
        simp [bcell]
      have e0 : (i + 1) * 3 = i * 3 + 3 := by omega
      rw [e0, show i * 3 + 3 + 1 = (i * 3 + 1) + 3 from by omega, show i * 3 + 3 + 2 = (i * 3 + 2) + 3 from by omega, e, e, e]
      exact ⟨h1, h2, h3⟩
theorem bcells_app (L M : List (Nat × Nat)) : bcells (L ++ M) = bcells L ++ bcells M := by simp [bcells]

/-- The slice value v has the blocks L, in a row of the call's own at or behind block base. -/
def Blks (w : World) (base : Nat) (v : Value) (L : List (Nat × Nat)) : Prop := w.ownsRow base 59 3 v L.length (bcells L)

theorem blks_open {w : World} {base : Nat} {v : Value} {L : List (Nat × Nat)} (h : Blks w base v L) :
    (v = .slice none 0 0 ∧ L = []) ∨ ∃ g cap, v = .slice (some ⟨g, 0, none⟩) L.length cap ∧ base ≤ g ∧ g < w.heap.size ∧ L.length ≤ cap ∧
      (∀ (j : Nat) (u : Value), (bcells L)[j]? = some u → w.cell? ⟨g, j, none⟩ = some u) := by
  obtain ⟨h1, h2⟩ := h
  rcases h2 with ⟨h2, h3⟩ | ⟨g, cap, cur, hv, hg, hh, h3, h4, h5, h6⟩
  · exact Or.inl ⟨h2, List.length_eq_zero_iff.1 h3⟩
  · refine Or.inr ⟨g, cap, hv, hg, ?_, h3, fun j u hj => ?_⟩
    · rcases Nat.lt_or_ge g w.heap.size with h | h
      · exact h
      · rw [Array.getElem?_eq_none h] at hh; cases hh
    · rw [← h6] at hj
      have hlt : j < L.length * 3 := by
        have := (List.getElem?_eq_some_iff.1 hj).1
        rw [List.length_take] at this
        omega
      rw [List.getElem?_take_of_lt hlt] at hj
      have hcur : cur[j]? = some u := by simpa using hj
      simp [World.cell?, hh, hcur]
theorem blks_len {w : World} {base : Nat} {v : Value} {L : List (Nat × Nat)} (h : Blks w base v L) : ∃ A cap, v = .slice A L.length cap := by
  rcases blks_open h with ⟨h1, h2⟩ | ⟨g, cap, h1, _⟩
  · subst h2; exact ⟨none, 0, h1⟩
  · exact ⟨_, cap, h1⟩
theorem blks_cell {w : World} {base : Nat} {v : Value} {L : List (Nat × Nat)} (h : Blks w base v L) {i : Nat} {p : Nat × Nat} (hp : L[i]? = some p) :
    ∃ g cap, v = .slice (some ⟨g, 0, none⟩) L.length cap ∧ base ≤ g ∧ w.cell? ⟨g, i * 3, none⟩ = some (.int .i64 (addr p.1 p.2 : Nat)) ∧ w.cell? ⟨g, i * 3 + 1, none⟩ = some (.int .i64 (p.1 : Nat)) ∧ w.cell? ⟨g, i * 3 + 2, none⟩ = some (.int .i64 (sz p.1 : Nat)) := by
  rcases blks_open h with ⟨h1, h2⟩ | ⟨g, cap, h1, h2, _, _, h3⟩
  · subst h2; simp at hp
  · obtain ⟨e1, e2, e3⟩ := bcells_get L i p hp
    exact ⟨g, cap, h1, h2, h3 _ _ e1, h3 _ _ e2, h3 _ _ e3⟩

/-- The reference heap at block rg. -/
structure RefAt (w : World) (base rg : Nat) (v : Value) (L : List (Nat × Nat)) : Prop where
  cell : w.cell? ⟨rg, 0, none⟩ = some v
  frz : w.frozen? ⟨rg, 0, none⟩ = false
  row : Blks w base v L
  apart : v.ownBlock ≠ some rg
  small : L.length ≤ 1000
  lt : base ≤ rg

set_option maxHeartbeats 2000000 in
set_option maxRecDepth 100000 in
theorem rfind_is (base rg : Nat) (v : Value) (L : List (Nat × Nat)) (w : World) (h : RefAt w base rg v L) (i : Nat) (p : Nat × Nat) (hp : L[i]? = some p) (hno : ∀ j q, j < i → L[j]? = some q → addr q.1 q.2 ≠ addr p.1 p.2) :
    Calls Try.prog 21 #[.pointer (some ⟨rg, 0, none⟩), .int .i64 (addr p.1 p.2 : Nat)] w fun e w' => e = .returned (.int .i64 (i : Nat)) ∧ w = w' := by
  obtain ⟨g, cap, rfl, _, _, _, _⟩ := blks_cell h.row hp
  have hc := h.cell
  have hs := h.small
  have hi : i < L.length := (List.getElem?_eq_some_iff.1 hp).1
  have HP := Lib.hid hp
  have HNO := Lib.hid hno
  have HR := Lib.hid h.row
  clear hp hno h
  go_enter Try.func21, Try.ntmps21
  go_wp2
  go_loop [5] (fun t => ∃ j : Nat, j ≤ i ∧ t = .int .i64 j) (fun t => i - (intOf t).toNat)
  case atStart => exact ⟨0, Nat.zero_le _, rfl⟩
  case round =>
    obtain ⟨j, hj, rfl⟩ := hrel
    have hjl : j < L.length := by omega
    by_cases hji : j < i
    · have hq : L[j]? = some L[j] := List.getElem?_eq_getElem hjl
      have hne := HNO.out j _ hji hq
      obtain ⟨_, _, e_, _, c0, _, _⟩ := blks_cell HR.out hq
      cases e_
      generalize L[j] = q at hne c0 hq
      have b1 : (((addr q.1 q.2 : Nat) : Int) == ((addr p.1 p.2 : Nat) : Int)) = false := beq_eq_false_iff_ne.2 (by omega)
      clear hq hne
      go_wp2
      go_round
      case rel => exact ⟨j + 1, by omega, by go_num⟩
      case measure => simp [intOf]; omega
    · obtain rfl : j = i := by omega
      obtain ⟨_, _, e_, _, c0, _, _⟩ := blks_cell HR.out HP.out
      cases e_
      have b1 : (((addr p.1 p.2 : Nat) : Int) == ((addr p.1 p.2 : Nat) : Int)) = true := beq_iff_eq.2 rfl
      go_wp2
      go_ret
      exact ⟨rfl, rfl⟩

set_option maxHeartbeats 2000000 in
set_option maxRecDepth 100000 in
theorem rfind_no (base rg : Nat) (v : Value) (L : List (Nat × Nat)) (w : World) (h : RefAt w base rg v L) (x : Int) (hno : ∀ q ∈ L, ((addr q.1 q.2 : Nat) : Int) ≠ x) :
    Calls Try.prog 21 #[.pointer (some ⟨rg, 0, none⟩), .int .i64 x] w fun e w' => e = .returned (.int .i64 (-1)) ∧ w = w' := by
  obtain ⟨A, cap, rfl⟩ := blks_len h.row
  have hc := h.cell
  have hs := h.small
  have HNO := Lib.hid hno
  have HR := Lib.hid h.row
  clear hno h
  go_enter Try.func21, Try.ntmps21
  go_wp2
  go_loop [5] (fun t => ∃ j : Nat, j ≤ L.length ∧ t = .int .i64 j) (fun t => L.length - (intOf t).toNat)
  case atStart => exact ⟨0, Nat.zero_le _, rfl⟩
  case round =>
    obtain ⟨j, hj, rfl⟩ := hrel
    by_cases hjl : j < L.length
    · have hq : L[j]? = some L[j] := List.getElem?_eq_getElem hjl
      have hne := HNO.out _ (List.getElem_mem hjl)
      obtain ⟨_, _, e_, _, c0, _, _⟩ := blks_cell HR.out hq
      cases e_
      generalize L[j] = q at hne c0 hq
      have b1 : (((addr q.1 q.2 : Nat) : Int) == x) = false := beq_eq_false_iff_ne.2 hne
      clear hq hne
      go_wp2
      go_round
      case rel => exact ⟨j + 1, by omega, by go_num⟩
      case measure => simp [intOf]; omega
    · go_wp2
      go_ret
      exact ⟨rfl, rfl⟩

set_option maxHeartbeats 2000000 in
set_option maxRecDepth 100000 in
theorem rlive_any (base rg : Nat) (v : Value) (L : List (Nat × Nat)) (w : World) (h : RefAt w base rg v L) (k : Int) :
    Calls Try.prog 15 #[.pointer (some ⟨rg, 0, none⟩), .int .i64 k] w fun e w' => e = .returned (.int .i64 (L.countP (fun p => ((p.1 : Nat) : Int) == k) : Nat)) ∧ w = w' := by
  obtain ⟨A, cap, rfl⟩ := blks_len h.row
  have hc := h.cell
  have hs := h.small
  have HR := Lib.hid h.row
  clear h
  go_enter Try.func15, Try.ntmps15
  go_wp2
  go_loop [5, 6] (fun n t => ∃ j : Nat, j ≤ L.length ∧ t = .int .i64 j ∧ n = .int .i64 ((L.take j).countP (fun p => ((p.1 : Nat) : Int) == k) : Nat)) (fun _ t => L.length - (intOf t).toNat)
  case atStart => exact ⟨0, Nat.zero_le _, rfl, rfl⟩
  case round =>
    obtain ⟨j, hj, rfl, rfl⟩ := hrel
    have hle : (L.take j).countP (fun p => ((p.1 : Nat) : Int) == k) ≤ j := Nat.le_trans List.countP_le_length (by rw [List.length_take]; omega)
    by_cases hjl : j < L.length
    · have hq : L[j]? = some L[j] := List.getElem?_eq_getElem hjl
      obtain ⟨_, _, e_, _, _, c1, _⟩ := blks_cell HR.out hq
      cases e_
      have hn : (L.take (j + 1)).countP (fun p => ((p.1 : Nat) : Int) == k) = (L.take j).countP (fun p => ((p.1 : Nat) : Int) == k) + if ((L[j].1 : Nat) : Int) == k then 1 else 0 := by
        rw [List.take_succ_eq_append_getElem hjl, List.countP_append, List.countP_singleton]
      generalize L[j] = q at hn c1 hq
      by_cases hk : ((q.1 : Nat) : Int) = k
      · have b1 : (((q.1 : Nat) : Int) == k) = true := beq_iff_eq.2 hk
        rw [b1, if_pos rfl] at hn
        have HY := Lib.hid hn
        clear hq hn hk
        go_wp2
        go_round
        case rel => exact ⟨j + 1, by omega, by go_num, by rw [HY.out]; go_num⟩
        case measure => simp [intOf]; omega
      · have b1 : (((q.1 : Nat) : Int) == k) = false := beq_eq_false_iff_ne.2 hk
        rw [b1, if_neg (by decide)] at hn
        have HY := Lib.hid hn
        clear hq hn hk
        go_wp2
        go_round
        case rel => exact ⟨j + 1, by omega, by go_num, by rw [HY.out]; rfl⟩
        case measure => simp [intOf]; omega
    · obtain rfl : j = L.length := by omega
      go_wp2
      go_ret
      exact ⟨rfl, rfl⟩
end Go.Proofs.Ytefkaikedapokaa
