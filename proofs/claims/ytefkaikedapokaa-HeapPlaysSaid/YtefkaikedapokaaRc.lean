/- Contracts of the reference heap: Within. -/
import Derived.Test.YtefkaikedapokaaRb
namespace Go.Proofs.Ytefkaikedapokaa
open Go.RowKit
set_option linter.unusedSimpArgs false
set_option linter.unusedVariables false

theorem RefAt.below {w w' : World} {base rg : Nat} {v : Value} {L : List (Nat × Nat)} (h : RefAt w base rg v L) (hb : Below w.heap.size w w') : RefAt w' base rg v L := by
  refine ⟨old_cell hb h.cell, (hb.frozen (cell_lt h.cell)).trans h.frz, ?_, h.apart, h.small, h.lt⟩
  obtain ⟨h1, h2⟩ := h.row
  refine ⟨h1, ?_⟩
  rcases h2 with h2 | ⟨g, cap, cur, hv, hg, hh, r⟩
  · exact Or.inl h2
  · refine Or.inr ⟨g, cap, cur, hv, hg, ?_, r⟩
    rw [hb.block g ?_, hh]
    rcases Nat.lt_or_ge g w.heap.size with h | h
    · exact h
    · rw [Array.getElem?_eq_none h] at hh; cases hh
/-- The blocks lie in the heap. -/
def Lie (L : List (Nat × Nat)) : Prop := ∀ p ∈ L, 262144 ≤ addr p.1 p.2 ∧ addr p.1 p.2 + 4 * sz p.1 ≤ 273408 ∧ 1 ≤ sz p.1 ∧ sz p.1 ≤ 128

set_option maxHeartbeats 4000000 in
set_option maxRecDepth 100000 in
theorem rwithin_mis (base rg : Nat) (v : Value) (L : List (Nat × Nat)) (w : World) (h : RefAt w base rg v L) (hL : Lie L) (x m : Int) (h0 : 0 ≤ x) (hm : x % 4 ≠ 0) :
    Calls Try.prog 17 #[.pointer (some ⟨rg, 0, none⟩), .int .i64 x, .int .i64 m] w fun e w' => e = .returned (.bool false) ∧ Below w.heap.size w w' := by
  obtain ⟨A, cap, rfl⟩ := blks_len h.row
  have hs := h.small
  have HL := Lib.hid hL
  clear hL
  have m1 : (x % 4 == 0) = false := beq_eq_false_iff_ne.2 hm
  clear hm
  have hb0 := Below.refl w.heap.size w
  go_enter Try.func17, Try.ntmps17
  go_wp2
  go_loopw [7] (fun t wr => ∃ j : Nat, j ≤ L.length ∧ t = .int .i64 j ∧ RefAt wr base rg (.slice A L.length cap) L ∧ Below w.heap.size w wr) (fun t _ => L.length - (intOf t).toNat)
  case atStart => exact ⟨0, Nat.zero_le _, rfl, h, hb0⟩
  case round =>
    obtain ⟨j, hj, rfl, hR, hB⟩ := hrel
    clear h hb0
    have hc := hR.cell
    by_cases hjl : j < L.length
    · have hq : L[j]? = some L[j] := List.getElem?_eq_getElem hjl
      have hqm : L[j] ∈ L := List.getElem_mem hjl
      obtain ⟨gq, _, e_, _, c0, c1, c2⟩ := blks_cell hR.row hq
      cases e_
      obtain ⟨l0, l1, l2, l3⟩ := HL.out _ hqm
      generalize L[j] = q at c0 c1 c2 l0 l1 l2 l3 hq hqm
      clear hq hqm
      go_wp2
      go_roundw
      case rel => exact ⟨j + 1, by omega, by go_num, hR.below (bl_one _ _), bl_alloc hB _⟩
      case measure => simp [intOf]; omega
    · go_wp2
      go_ret
      exact ⟨rfl, hB⟩

set_option maxHeartbeats 4000000 in
set_option maxRecDepth 100000 in
theorem rwithin_misn (base rg : Nat) (v : Value) (L : List (Nat × Nat)) (w : World) (h : RefAt w base rg v L) (hL : Lie L) (x m : Int) (h0 : x < 0) (hm : x.tmod 4 ≠ 0) :
    Calls Try.prog 17 #[.pointer (some ⟨rg, 0, none⟩), .int .i64 x, .int .i64 m] w fun e w' => e = .returned (.bool false) ∧ Below w.heap.size w w' := by
  obtain ⟨A, cap, rfl⟩ := blks_len h.row
  have hs := h.small
  have HL := Lib.hid hL
  clear hL
  have m1 : (x.tmod 4 == 0) = false := beq_eq_false_iff_ne.2 hm
  clear hm
  have hb0 := Below.refl w.heap.size w
  go_enter Try.func17, Try.ntmps17
  go_wp2
  go_loopw [7] (fun t wr => ∃ j : Nat, j ≤ L.length ∧ t = .int .i64 j ∧ RefAt wr base rg (.slice A L.length cap) L ∧ Below w.heap.size w wr) (fun t _ => L.length - (intOf t).toNat)
  case atStart => exact ⟨0, Nat.zero_le _, rfl, h, hb0⟩
  case round =>
    obtain ⟨j, hj, rfl, hR, hB⟩ := hrel
    clear h hb0
    have hc := hR.cell
    by_cases hjl : j < L.length
    · have hq : L[j]? = some L[j] := List.getElem?_eq_getElem hjl
      have hqm : L[j] ∈ L := List.getElem_mem hjl
      obtain ⟨gq, _, e_, _, c0, c1, c2⟩ := blks_cell hR.row hq
      cases e_
      obtain ⟨l0, l1, l2, l3⟩ := HL.out _ hqm
      generalize L[j] = q at c0 c1 c2 l0 l1 l2 l3 hq hqm
      clear hq hqm
      go_wp2
      go_roundw
      case rel => exact ⟨j + 1, by omega, by go_num, hR.below (bl_one _ _), bl_alloc hB _⟩
      case measure => simp [intOf]; omega
    · go_wp2
      go_ret
      exact ⟨rfl, hB⟩

set_option maxHeartbeats 4000000 in
set_option maxRecDepth 100000 in
theorem rwithin_few (base rg : Nat) (v : Value) (L : List (Nat × Nat)) (w : World) (h : RefAt w base rg v L) (hL : Lie L) (x m : Int) (h0 : 0 ≤ x) (hm : x % 4 = 0) (hf : m < 1) :
    Calls Try.prog 17 #[.pointer (some ⟨rg, 0, none⟩), .int .i64 x, .int .i64 m] w fun e w' => e = .returned (.bool false) ∧ Below w.heap.size w w' := by
  obtain ⟨A, cap, rfl⟩ := blks_len h.row
  have hs := h.small
  have HL := Lib.hid hL
  clear hL
  have m1 : (x % 4 == 0) = true := beq_iff_eq.2 hm
  have m2 : decide (1 ≤ m) = false := decide_eq_false (by omega)
  clear hm
  have hb0 := Below.refl w.heap.size w
  go_enter Try.func17, Try.ntmps17
  go_wp2
  go_loopw [7] (fun t wr => ∃ j : Nat, j ≤ L.length ∧ t = .int .i64 j ∧ RefAt wr base rg (.slice A L.length cap) L ∧ Below w.heap.size w wr) (fun t _ => L.length - (intOf t).toNat)
  case atStart => exact ⟨0, Nat.zero_le _, rfl, h, hb0⟩
  case round =>
    obtain ⟨j, hj, rfl, hR, hB⟩ := hrel
    clear h hb0
    have hc := hR.cell
    by_cases hjl : j < L.length
    · have hq : L[j]? = some L[j] := List.getElem?_eq_getElem hjl
      have hqm : L[j] ∈ L := List.getElem_mem hjl
      obtain ⟨gq, _, e_, _, c0, c1, c2⟩ := blks_cell hR.row hq
      cases e_
      obtain ⟨l0, l1, l2, l3⟩ := HL.out _ hqm
      generalize L[j] = q at c0 c1 c2 l0 l1 l2 l3 hq hqm
      clear hq hqm
      go_wp2
      go_roundw
      case rel => exact ⟨j + 1, by omega, by go_num, hR.below (bl_one _ _), bl_alloc hB _⟩
      case measure => simp [intOf]; omega
    · go_wp2
      go_ret
      exact ⟨rfl, hB⟩

set_option maxHeartbeats 4000000 in
set_option maxRecDepth 100000 in
theorem rwithin_fewn (base rg : Nat) (v : Value) (L : List (Nat × Nat)) (w : World) (h : RefAt w base rg v L) (hL : Lie L) (x m : Int) (h0 : x < 0) (hm : x.tmod 4 = 0) (hf : m < 1) :
    Calls Try.prog 17 #[.pointer (some ⟨rg, 0, none⟩), .int .i64 x, .int .i64 m] w fun e w' => e = .returned (.bool false) ∧ Below w.heap.size w w' := by
  obtain ⟨A, cap, rfl⟩ := blks_len h.row
  have hs := h.small
  have HL := Lib.hid hL
  clear hL
  have m1 : (x.tmod 4 == 0) = true := beq_iff_eq.2 hm
  have m2 : decide (1 ≤ m) = false := decide_eq_false (by omega)
  clear hm
  have hb0 := Below.refl w.heap.size w
  go_enter Try.func17, Try.ntmps17
  go_wp2
  go_loopw [7] (fun t wr => ∃ j : Nat, j ≤ L.length ∧ t = .int .i64 j ∧ RefAt wr base rg (.slice A L.length cap) L ∧ Below w.heap.size w wr) (fun t _ => L.length - (intOf t).toNat)
  case atStart => exact ⟨0, Nat.zero_le _, rfl, h, hb0⟩
  case round =>
    obtain ⟨j, hj, rfl, hR, hB⟩ := hrel
    clear h hb0
    have hc := hR.cell
    by_cases hjl : j < L.length
    · have hq : L[j]? = some L[j] := List.getElem?_eq_getElem hjl
      have hqm : L[j] ∈ L := List.getElem_mem hjl
      obtain ⟨gq, _, e_, _, c0, c1, c2⟩ := blks_cell hR.row hq
      cases e_
      obtain ⟨l0, l1, l2, l3⟩ := HL.out _ hqm
      generalize L[j] = q at c0 c1 c2 l0 l1 l2 l3 hq hqm
      clear hq hqm
      go_wp2
      go_roundw
      case rel => exact ⟨j + 1, by omega, by go_num, hR.below (bl_one _ _), bl_alloc hB _⟩
      case measure => simp [intOf]; omega
    · go_wp2
      go_ret
      exact ⟨rfl, hB⟩

set_option maxHeartbeats 4000000 in
set_option maxRecDepth 100000 in
theorem rwithin_neg (base rg : Nat) (v : Value) (L : List (Nat × Nat)) (w : World) (h : RefAt w base rg v L) (hL : Lie L) (x m : Int) (h0 : x < 0) (hm : x.tmod 4 = 0) (hf : 1 ≤ m) :
    Calls Try.prog 17 #[.pointer (some ⟨rg, 0, none⟩), .int .i64 x, .int .i64 m] w fun e w' => e = .returned (.bool false) ∧ Below w.heap.size w w' := by
  obtain ⟨A, cap, rfl⟩ := blks_len h.row
  have hs := h.small
  have HL := Lib.hid hL
  clear hL
  have m1 : (x.tmod 4 == 0) = true := beq_iff_eq.2 hm
  have m2 : decide (1 ≤ m) = true := decide_eq_true hf
  clear hm
  have hb0 := Below.refl w.heap.size w
  go_enter Try.func17, Try.ntmps17
  go_wp2
  go_loopw [7] (fun t wr => ∃ j : Nat, j ≤ L.length ∧ t = .int .i64 j ∧ RefAt wr base rg (.slice A L.length cap) L ∧ Below w.heap.size w wr) (fun t _ => L.length - (intOf t).toNat)
  case atStart => exact ⟨0, Nat.zero_le _, rfl, h, hb0⟩
  case round =>
    obtain ⟨j, hj, rfl, hR, hB⟩ := hrel
    clear h hb0
    have hc := hR.cell
    by_cases hjl : j < L.length
    · have hq : L[j]? = some L[j] := List.getElem?_eq_getElem hjl
      have hqm : L[j] ∈ L := List.getElem_mem hjl
      obtain ⟨gq, _, e_, _, c0, c1, c2⟩ := blks_cell hR.row hq
      cases e_
      obtain ⟨l0, l1, l2, l3⟩ := HL.out _ hqm
      generalize L[j] = q at c0 c1 c2 l0 l1 l2 l3 hq hqm
      clear hq hqm
      have d1 : decide (((addr q.1 q.2 : Nat) : Int) ≤ x) = false := decide_eq_false (by omega)
      go_wp2
      go_roundw
      case rel => exact ⟨j + 1, by omega, by go_num, hR.below (bl_one _ _), bl_alloc hB _⟩
      case measure => simp [intOf]; omega
    · go_wp2
      go_ret
      exact ⟨rfl, hB⟩

set_option maxHeartbeats 4000000 in
set_option maxRecDepth 100000 in
theorem rwithin_no (base rg : Nat) (v : Value) (L : List (Nat × Nat)) (w : World) (h : RefAt w base rg v L) (hL : Lie L) (x m : Int) (h0 : 0 ≤ x) (hm : x % 4 = 0) (hf : 1 ≤ m) (hno : ∀ p ∈ L, x < (addr p.1 p.2 : Nat) ∨ ((addr p.1 p.2 : Nat) : Int) + 4 * (sz p.1 : Nat) ≤ x ∨ ((sz p.1 : Nat) : Int) - (x - (addr p.1 p.2 : Nat)) / 4 < m) :
    Calls Try.prog 17 #[.pointer (some ⟨rg, 0, none⟩), .int .i64 x, .int .i64 m] w fun e w' => e = .returned (.bool false) ∧ Below w.heap.size w w' := by
  obtain ⟨A, cap, rfl⟩ := blks_len h.row
  have hs := h.small
  have HL := Lib.hid hL
  clear hL
  have m1 : (x % 4 == 0) = true := beq_iff_eq.2 hm
  have m2 : decide (1 ≤ m) = true := decide_eq_true hf
  have HNO := Lib.hid hno
  clear hm hno
  have hb0 := Below.refl w.heap.size w
  go_enter Try.func17, Try.ntmps17
  go_wp2
  go_loopw [7] (fun t wr => ∃ j : Nat, j ≤ L.length ∧ t = .int .i64 j ∧ RefAt wr base rg (.slice A L.length cap) L ∧ Below w.heap.size w wr) (fun t _ => L.length - (intOf t).toNat)
  case atStart => exact ⟨0, Nat.zero_le _, rfl, h, hb0⟩
  case round =>
    obtain ⟨j, hj, rfl, hR, hB⟩ := hrel
    clear h hb0
    have hc := hR.cell
    by_cases hjl : j < L.length
    · have hq : L[j]? = some L[j] := List.getElem?_eq_getElem hjl
      have hqm : L[j] ∈ L := List.getElem_mem hjl
      obtain ⟨gq, _, e_, _, c0, c1, c2⟩ := blks_cell hR.row hq
      cases e_
      obtain ⟨l0, l1, l2, l3⟩ := HL.out _ hqm
      have hf_ := HNO.out _ hqm
      generalize L[j] = q at c0 c1 c2 l0 l1 l2 l3 hq hqm hf_
      clear hq hqm
      by_cases t1 : ((addr q.1 q.2 : Nat) : Int) ≤ x
      · have d1 : decide (((addr q.1 q.2 : Nat) : Int) ≤ x) = true := decide_eq_true t1
        by_cases t2 : x < ((addr q.1 q.2 : Nat) : Int) + 4 * ((sz q.1 : Nat) : Int)
        · have d2 : decide (x < ((addr q.1 q.2 : Nat) : Int) + 4 * ((sz q.1 : Nat) : Int)) = true := decide_eq_true t2
          have t0 : 0 ≤ x - ((addr q.1 q.2 : Nat) : Int) := by omega
          have t3 : 0 ≤ (x - ((addr q.1 q.2 : Nat) : Int)) / 4 := by omega
          have t4 : (x - ((addr q.1 q.2 : Nat) : Int)) / 4 < 128 := by omega
          have d3 : decide (m ≤ ((sz q.1 : Nat) : Int) - (x - ((addr q.1 q.2 : Nat) : Int)) / 4) = false := decide_eq_false (by omega)
          clear hf_
          go_wp2
          go_roundw
          case rel => exact ⟨j + 1, by omega, by go_num, hR.below (bl_one _ _), bl_alloc hB _⟩
          case measure => simp [intOf]; omega
        · have d2 : decide (x < ((addr q.1 q.2 : Nat) : Int) + 4 * ((sz q.1 : Nat) : Int)) = false := decide_eq_false t2
          clear hf_
          go_wp2
          go_roundw
          case rel => exact ⟨j + 1, by omega, by go_num, hR.below (bl_one _ _), bl_alloc hB _⟩
          case measure => simp [intOf]; omega
      · have d1 : decide (((addr q.1 q.2 : Nat) : Int) ≤ x) = false := decide_eq_false t1
        clear hf_
        go_wp2
        go_roundw
        case rel => exact ⟨j + 1, by omega, by go_num, hR.below (bl_one _ _), bl_alloc hB _⟩
        case measure => simp [intOf]; omega
    · go_wp2
      go_ret
      exact ⟨rfl, hB⟩

set_option maxHeartbeats 4000000 in
set_option maxRecDepth 100000 in
theorem rwithin_is (base rg : Nat) (v : Value) (L : List (Nat × Nat)) (w : World) (h : RefAt w base rg v L) (hL : Lie L) (x m : Int) (h0 : 0 ≤ x) (hm : x % 4 = 0) (hf : 1 ≤ m) (i : Nat) (p : Nat × Nat) (hp : L[i]? = some p) (hp1 : ((addr p.1 p.2 : Nat) : Int) ≤ x) (hp2 : x < ((addr p.1 p.2 : Nat) : Int) + 4 * (sz p.1 : Nat)) (hp3 : m ≤ ((sz p.1 : Nat) : Int) - (x - (addr p.1 p.2 : Nat)) / 4) (hno : ∀ j q, j < i → L[j]? = some q → x < (addr q.1 q.2 : Nat) ∨ ((addr q.1 q.2 : Nat) : Int) + 4 * (sz q.1 : Nat) ≤ x ∨ ((sz q.1 : Nat) : Int) - (x - (addr q.1 q.2 : Nat)) / 4 < m) :
    Calls Try.prog 17 #[.pointer (some ⟨rg, 0, none⟩), .int .i64 x, .int .i64 m] w fun e w' => e = .returned (.bool true) ∧ Below w.heap.size w w' := by
  obtain ⟨A, cap, rfl⟩ := blks_len h.row
  have hs := h.small
  have HL := Lib.hid hL
  clear hL
  have m1 : (x % 4 == 0) = true := beq_iff_eq.2 hm
  have m2 : decide (1 ≤ m) = true := decide_eq_true hf
  have HNO := Lib.hid hno
  clear hm hno
  have hi : i < L.length := (List.getElem?_eq_some_iff.1 hp).1
  have HP := Lib.hid hp
  clear hp
  have hb0 := Below.refl w.heap.size w
  go_enter Try.func17, Try.ntmps17
  go_wp2
  go_loopw [7] (fun t wr => ∃ j : Nat, j ≤ i ∧ t = .int .i64 j ∧ RefAt wr base rg (.slice A L.length cap) L ∧ Below w.heap.size w wr) (fun t _ => i - (intOf t).toNat)
  case atStart => exact ⟨0, Nat.zero_le _, rfl, h, hb0⟩
  case round =>
    obtain ⟨j, hj, rfl, hR, hB⟩ := hrel
    clear h hb0
    have hc := hR.cell
    by_cases hjl : j < L.length
    · have hq : L[j]? = some L[j] := List.getElem?_eq_getElem hjl
      have hqm : L[j] ∈ L := List.getElem_mem hjl
      obtain ⟨gq, _, e_, _, c0, c1, c2⟩ := blks_cell hR.row hq
      cases e_
      obtain ⟨l0, l1, l2, l3⟩ := HL.out _ hqm
      by_cases hji : j < i
      · have hf_ := HNO.out j _ hji hq
        generalize L[j] = q at c0 c1 c2 l0 l1 l2 l3 hq hqm hf_
        clear hq hqm
        by_cases t1 : ((addr q.1 q.2 : Nat) : Int) ≤ x
        · have d1 : decide (((addr q.1 q.2 : Nat) : Int) ≤ x) = true := decide_eq_true t1
          by_cases t2 : x < ((addr q.1 q.2 : Nat) : Int) + 4 * ((sz q.1 : Nat) : Int)
          · have d2 : decide (x < ((addr q.1 q.2 : Nat) : Int) + 4 * ((sz q.1 : Nat) : Int)) = true := decide_eq_true t2
            have t0 : 0 ≤ x - ((addr q.1 q.2 : Nat) : Int) := by omega
            have t3 : 0 ≤ (x - ((addr q.1 q.2 : Nat) : Int)) / 4 := by omega
            have t4 : (x - ((addr q.1 q.2 : Nat) : Int)) / 4 < 128 := by omega
            have d3 : decide (m ≤ ((sz q.1 : Nat) : Int) - (x - ((addr q.1 q.2 : Nat) : Int)) / 4) = false := decide_eq_false (by omega)
            clear hf_
            go_wp2
            go_roundw
            case rel => exact ⟨j + 1, by omega, by go_num, hR.below (bl_one _ _), bl_alloc hB _⟩
            case measure => simp [intOf]; omega
          · have d2 : decide (x < ((addr q.1 q.2 : Nat) : Int) + 4 * ((sz q.1 : Nat) : Int)) = false := decide_eq_false t2
            clear hf_
            go_wp2
            go_roundw
            case rel => exact ⟨j + 1, by omega, by go_num, hR.below (bl_one _ _), bl_alloc hB _⟩
            case measure => simp [intOf]; omega
        · have d1 : decide (((addr q.1 q.2 : Nat) : Int) ≤ x) = false := decide_eq_false t1
          clear hf_
          go_wp2
          go_roundw
          case rel => exact ⟨j + 1, by omega, by go_num, hR.below (bl_one _ _), bl_alloc hB _⟩
          case measure => simp [intOf]; omega
      · obtain rfl : j = i := by omega
        have hpq : L[j] = p := by have := hq.symm.trans HP.out; injection this
        rw [hpq] at c0 c1 c2 l0 l1 l2 l3
        have d1 : decide (((addr p.1 p.2 : Nat) : Int) ≤ x) = true := decide_eq_true hp1
        have d2 : decide (x < ((addr p.1 p.2 : Nat) : Int) + 4 * ((sz p.1 : Nat) : Int)) = true := decide_eq_true hp2
        have t0 : 0 ≤ x - ((addr p.1 p.2 : Nat) : Int) := by omega
        have t3 : 0 ≤ (x - ((addr p.1 p.2 : Nat) : Int)) / 4 := by omega
        have t4 : (x - ((addr p.1 p.2 : Nat) : Int)) / 4 < 128 := by omega
        have d3 : decide (m ≤ ((sz p.1 : Nat) : Int) - (x - ((addr p.1 p.2 : Nat) : Int)) / 4) = true := decide_eq_true hp3
        clear hq hqm hpq
        go_wp2
        go_ret
        exact ⟨rfl, bl_alloc hB _⟩
    · exact absurd hjl (by omega)

end Go.Proofs.Ytefkaikedapokaa
