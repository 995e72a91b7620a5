/-
  Every call of LayoutApart returns true: locals in a frame do not lie over one another, and lie in it; both parts of a word come to it. No condition.
-/
import Derived.Test.YthmdclgihgnjdaaRows
import Derived.Test.YthmdclgihgnjdaaLf
import Derived.WalkKit
import Derived.ProofKit
import Derived.OpenShut
import Derived.ChangeOld
import Derived.Below
import Derived.Deep.Slices
namespace Go.Proofs.Ythmdclgihgnjdaa.layoutApart
open Go.ChangeShapes Go.WideShapes Go.ChangeAt Go.RowKit
set_option linter.unusedVariables false

theorem own : ownKnob Try.prog.godebug = none := by kernel_rfl
theorem laidOut : laidOutB Try.prog = true := by kernel_rfl

section
variable {H : Type} {enc : TypeId × Value → H} {w : World} {base : Nat} {held : Bool}
/-- A struct's field of one cell. -/
theorem field_at {spare : Nat → Bool} {t : TypeId} {fs : Array Field} {cs : List Value} {fuel : Nat} {x : DataW H × List MemPlace}
    (ht : Try.prog.underlying t = some (.struct fs)) (h : DataW.trod enc Try.prog w base spare held fuel t cs = some x) (j o : Nat) (f : Field) (hf : fs[j]? = some f) (ho : f.offset = o) (hc : Try.prog.cellsOf f.type = 1) (hl : o < cs.length) :
    ∃ v y n, cs[o]? = some v ∧ DataW.trod enc Try.prog w base spare held n f.type [v] = some y ∧ n < fuel := by
  obtain ⟨xs, n, hn, _, _, hlen, hg⟩ := DataW.trod_struct ht h
  have h1 := hg j f hf
  have hj : j < xs.length := by rw [hlen]; exact (Array.getElem?_eq_some_iff.1 hf).1
  rw [ho, hc, List.drop_eq_getElem_cons hl] at h1
  exact ⟨_, _, n, List.getElem?_eq_getElem hl, h1.trans (List.getElem?_eq_getElem hj), by omega⟩
theorem int_at {spare : Nat → Bool} {t : TypeId} {fs : Array Field} {cs : List Value} {fuel : Nat} {x : DataW H × List MemPlace}
    (ht : Try.prog.underlying t = some (.struct fs)) (h : DataW.trod enc Try.prog w base spare held fuel t cs = some x) (j o : Nat) (f : Field) (hf : fs[j]? = some f) (ho : f.offset = o) (hc : f.type = 3) (hl : o < cs.length) : ∃ z : Int, cs[o]? = some (.int .i64 z) := by
  obtain ⟨v, y, n, hv, hy, _⟩ := field_at ht h j o f hf ho (by rw [hc]; kernel_rfl) hl
  rw [hc] at hy
  obtain ⟨z, hz, _⟩ := DataW.trod_int Try.underlying3 hy
  injection hz with hz _
  exact ⟨z, by rw [hv, hz]⟩
theorem string_at {spare : Nat → Bool} {t : TypeId} {fs : Array Field} {cs : List Value} {fuel : Nat} {x : DataW H × List MemPlace}
    (ht : Try.prog.underlying t = some (.struct fs)) (h : DataW.trod enc Try.prog w base spare held fuel t cs = some x) (j o : Nat) (f : Field) (hf : fs[j]? = some f) (ho : f.offset = o) (hc : f.type = 9) (hl : o < cs.length) : ∃ z : ByteArray, cs[o]? = some (.string z) := by
  obtain ⟨v, y, n, hv, hy, _⟩ := field_at ht h j o f hf ho (by rw [hc]; kernel_rfl) hl
  rw [hc] at hy
  obtain ⟨z, hz, _⟩ := DataW.trod_string Try.underlying9 hy
  injection hz with hz _
  exact ⟨z, by rw [hv, hz]⟩
theorem slice_at {spare : Nat → Bool} {t e : TypeId} {fs : Array Field} {cs : List Value} {fuel : Nat} {x : DataW H × List MemPlace}
    (ht : Try.prog.underlying t = some (.struct fs)) (h : DataW.trod enc Try.prog w base spare held fuel t cs = some x) (j o : Nat) (f : Field) (hf : fs[j]? = some f) (ho : f.offset = o) (hc : Try.prog.cellsOf f.type = 1) (he : Try.prog.underlying f.type = some (.slice e)) (hl : o < cs.length) : ∃ A n k, cs[o]? = some (.slice A n k) := by
  obtain ⟨v, y, n, hv, hy, _⟩ := field_at ht h j o f hf ho hc hl
  rcases DataW.trod_slice he hy with ⟨h1, _⟩ | ⟨a, len, cap, _, _, _, _, h1, _⟩
  · injection h1 with h1 _; exact ⟨_, _, _, by rw [hv, h1]⟩
  · injection h1 with h1 _; exact ⟨_, _, _, by rw [hv, h1]⟩
/-- A slice's elements. -/
theorem slice_elems {t e k fuel : Nat} {v : Value} {x : DataW H × List MemPlace} (ht : Try.prog.underlying t = some (.slice e)) (hC : Try.prog.cellsOf e = k) (hk : 0 < k) (h : DataW.trod enc Try.prog w base (fun _ => true) held fuel t [v] = some x) :
    ∃ A n c, v = .slice A n c ∧ n ≤ maxLen ∧ ∀ i, i < n → ∃ b o, A = some ⟨b, o, none⟩ ∧ ∃ cs y m, cs.length = k ∧ (∀ j, j < k → w.cell? ⟨b, o + i * k + j, none⟩ = cs[j]?) ∧ DataW.trod enc Try.prog w base (fun _ => true) held m e cs = some y := by
  rcases DataW.trod_slice ht h with ⟨h1, _⟩ | ⟨a, len, cap, elems, rest, m, hm, h1, _, _, hle, hmax, hel, hat, _, _⟩
  · injection h1 with h1 _
    exact ⟨none, 0, 0, h1, Nat.zero_le _, fun i hi => absurd hi (Nat.not_lt_zero _)⟩
  · injection h1 with h1 _
    rw [hC] at hat
    have hspot : 0 < len → a.spot = none := fun h0 => by
      have at0 := hat 0 h0
      rw [List.getElem?_eq_getElem (by omega), Option.bind_eq_some_iff] at at0
      obtain ⟨cs0, hc0, _⟩ := at0
      obtain ⟨_, hcl, hcell⟩ := World.cells?_some hc0
      have h2 := World.cell?_spot ((hcell 0 hk).trans (List.getElem?_eq_getElem (by omega)))
      simpa [Addr.add] using h2
    refine ⟨some a, len, cap, h1, Nat.le_trans hle hmax, fun i hi => ?_⟩
    have hs := hspot (by omega)
    obtain ⟨b, o, spot⟩ := a
    simp only at hs
    subst hs
    have ati := hat i hi
    rw [List.getElem?_eq_getElem (by omega), Option.bind_eq_some_iff] at ati
    obtain ⟨cs, hc, hy⟩ := ati
    obtain ⟨_, hcl, hcell⟩ := World.cells?_some hc
    refine ⟨b, o, rfl, cs, _, m, hcl, fun j hj => ?_, hy⟩
    have := hcell j hj
    rw [Go.Deep.add_add, Go.WideShapes.add_plain] at this
    rw [Nat.add_assoc]
    exact this
/-- A struct within a struct. -/
theorem part_at {t : TypeId} {fs : Array Field} {cs : List Value} {fuel : Nat} {x : DataW H × List MemPlace}
    (ht : Try.prog.underlying t = some (.struct fs)) (h : DataW.trod enc Try.prog w base (fun _ => true) held fuel t cs = some x) (j o k : Nat) (f : Field) (hf : fs[j]? = some f) (ho : f.offset = o) (hc : Try.prog.cellsOf f.type = k) : ∃ y n, DataW.trod enc Try.prog w base (fun _ => true) held n f.type ((cs.drop o).take k) = some y := by
  obtain ⟨xs, n, _, _, _, hlen, hg⟩ := DataW.trod_struct ht h
  have h1 := hg j f hf
  have hj : j < xs.length := by rw [hlen]; exact (Array.getElem?_eq_some_iff.1 hf).1
  rw [ho, hc] at h1
  exact ⟨_, n, h1.trans (List.getElem?_eq_getElem hj)⟩
theorem place_open {b o fuel : Nat} {cs : List Value} {x : DataW H × List MemPlace} (hl : cs.length = 2) (hc : ∀ j, j < 2 → w.cell? ⟨b, o + j, none⟩ = cs[j]?) (h : DataW.trod enc Try.prog w base (fun _ => true) held fuel 50 cs = some x) : Pl w b o := by
  obtain ⟨z0, e0⟩ := int_at Try.underlying50 h 0 0 _ rfl rfl rfl (by omega)
  obtain ⟨v1, y1, n1, e1, h1, _⟩ := field_at Try.underlying50 h 1 1 _ rfl rfl (by kernel_rfl) (by omega)
  obtain ⟨A, n, c, rfl, _, hel⟩ := slice_elems (e := 58) (k := 3) Try.underlying48 (by kernel_rfl) (by decide) h1
  refine ⟨z0, A, n, c, (hc 0 (by omega)).trans e0, (hc 1 (by omega)).trans e1, fun hn => ?_⟩
  obtain ⟨b', o', rfl, cs', y, m, hl', hc', hy⟩ := hel 0 hn
  obtain ⟨k, hk⟩ := int_at Try.underlying58 hy 0 0 _ rfl rfl rfl (by omega)
  exact ⟨b', o', k, rfl, by have := (hc' 0 (by omega)).trans hk; simpa using this⟩
theorem sub_cells {b o p k : Nat} {cs : List Value} {m : Nat} (hl : cs.length = m) (hc : ∀ j, j < m → w.cell? ⟨b, o + j, none⟩ = cs[j]?) (hp : p + k ≤ m) : ((cs.drop p).take k).length = k ∧ ∀ j, j < k → w.cell? ⟨b, o + p + j, none⟩ = ((cs.drop p).take k)[j]? := by
  refine ⟨by simp; omega, fun j hj => ?_⟩
  rw [List.getElem?_take_of_lt hj, List.getElem?_drop, ← hc (p + j) (by omega), Nat.add_assoc]
theorem ins_open {b o fuel : Nat} {cs : List Value} {x : DataW H × List MemPlace} (hl : cs.length = 18) (hc : ∀ j, j < 18 → w.cell? ⟨b, o + j, none⟩ = cs[j]?) (h : DataW.trod enc Try.prog w base (fun _ => true) held fuel 55 cs = some x) : Ins w b o := by
  obtain ⟨z0, e0⟩ := int_at Try.underlying55 h 0 0 _ rfl rfl rfl (by omega)
  obtain ⟨y4, n4, h4⟩ := part_at Try.underlying55 h 4 6 2 _ rfl rfl (by kernel_rfl)
  obtain ⟨y5, n5, h5⟩ := part_at Try.underlying55 h 5 8 2 _ rfl rfl (by kernel_rfl)
  obtain ⟨l4, c4⟩ := sub_cells (p := 6) (k := 2) hl hc (by omega)
  obtain ⟨l5, c5⟩ := sub_cells (p := 8) (k := 2) hl hc (by omega)
  exact ⟨⟨z0, (hc 0 (by omega)).trans e0⟩, place_open l4 c4 h4, place_open l5 c5 h5⟩
theorem bk_open {b o fuel : Nat} {cs : List Value} {x : DataW H × List MemPlace} (hl : cs.length = 7) (hc : ∀ j, j < 7 → w.cell? ⟨b, o + j, none⟩ = cs[j]?) (h : DataW.trod enc Try.prog w base (fun _ => true) held fuel 44 cs = some x) : Bk w b o := by
  obtain ⟨v1, y1, n1, e1, h1, _⟩ := field_at Try.underlying44 h 0 0 _ rfl rfl (by kernel_rfl) (by omega)
  obtain ⟨A, n, c, rfl, hm, hel⟩ := slice_elems (e := 55) (k := 18) Try.underlying37 (by kernel_rfl) (by decide) h1
  refine ⟨A, n, c, (hc 0 (by omega)).trans e1, hm, fun i hi => ?_⟩
  obtain ⟨b', o', rfl, cs', y, m, hl', hc', hy⟩ := hel i hi
  exact ⟨b', o', rfl, ins_open hl' hc' hy⟩
theorem bks_open {fuel : Nat} {v : Value} {x : DataW H × List MemPlace} (h : DataW.trod enc Try.prog w base (fun _ => true) held fuel 23 [v] = some x) : ∃ B n c, v = .slice B n c ∧ n ≤ maxLen ∧ Bks w B n := by
  obtain ⟨A, n, c, rfl, hm, hel⟩ := slice_elems (e := 44) (k := 7) Try.underlying23 (by kernel_rfl) (by decide) h
  refine ⟨A, n, c, rfl, hm, fun i hi => ?_⟩
  obtain ⟨b', o', rfl, cs', y, m, hl', hc', hy⟩ := hel i hi
  exact ⟨b', o', rfl, bk_open hl' hc' hy⟩
theorem ls_open {fuel : Nat} {v : Value} {x : DataW H × List MemPlace} (h : DataW.trod enc Try.prog w base (fun _ => true) held fuel 22 [v] = some x) : ∃ A n c z, v = .slice A n c ∧ n ≤ maxLen ∧ Ls w A n z := by
  obtain ⟨A, n, c, rfl, hm, hel⟩ := slice_elems (e := 3) (k := 1) Try.underlying22 (by kernel_rfl) (by decide) h
  have hall : ∀ i, i < n → ∃ y : Int, ∃ b o, A = some ⟨b, o, none⟩ ∧ w.cell? ⟨b, o + i, none⟩ = some (.int .i64 y) := fun i hi => by
    obtain ⟨b', o', rfl, cs', y, m, hl', hc', hy⟩ := hel i hi
    obtain ⟨z, hz, _⟩ := DataW.trod_int Try.underlying3 hy
    have := hc' 0 (by omega)
    rw [hz] at this
    exact ⟨z, b', o', rfl, by simpa using this⟩
  refine ⟨A, n, c, fun i => if hi : i < n then Classical.choose (hall i hi) else 0, rfl, hm, fun i hi => ?_⟩
  obtain ⟨b, o, e, k⟩ := Classical.choose_spec (hall i hi)
  refine ⟨b, o, e, ?_⟩
  simp only [dif_pos hi]
  exact k
theorem bool_at {spare : Nat → Bool} {t : TypeId} {fs : Array Field} {cs : List Value} {fuel : Nat} {x : DataW H × List MemPlace}
    (ht : Try.prog.underlying t = some (.struct fs)) (h : DataW.trod enc Try.prog w base spare held fuel t cs = some x) (j o : Nat) (f : Field) (hf : fs[j]? = some f) (ho : f.offset = o) (hc : f.type = 4) (hl : o < cs.length) : ∃ z : Bool, cs[o]? = some (.bool z) := by
  obtain ⟨v, y, n, hv, hy, _⟩ := field_at ht h j o f hf ho (by rw [hc]; kernel_rfl) hl
  rw [hc] at hy
  obtain ⟨z, hz, _⟩ := DataW.trod_bool Try.underlying4 hy
  injection hz with hz _
  exact ⟨z, by rw [hv, hz]⟩
theorem six_list {cs : List Value} (h : cs.length = 6) : ∃ c0 c1 c2 c3 c4 c5, cs = [c0, c1, c2, c3, c4, c5] := by
  match cs, h with
  | [c0, c1, c2, c3, c4, c5], _ => exact ⟨c0, c1, c2, c3, c4, c5, rfl⟩
/-- A function in the middle form that can be read. -/
def Mir (w : World) (v : Value) : Prop := ∃ s A n cl z p a q B nb cb, v = .agg #[.string s, .slice A n cl, .int .i64 p, .int .i64 a, .bool q, .slice B nb cb] ∧ Ls w A n z ∧ Bks w B nb ∧ n ≤ 9223372036854775807 ∧ nb ≤ 9223372036854775807
theorem mir_open {fuel : Nat} {cs : List Value} {x : DataW H × List MemPlace} (h : DataW.trod enc Try.prog w base (fun _ => true) held fuel 25 cs = some x) : Mir w (.agg cs.toArray) := by
  have hC : Try.prog.cellsOf 25 = 6 := by kernel_rfl
  have hlen : cs.length = 6 := by obtain ⟨_, _, _, _, h1, _, _⟩ := DataW.trod_struct Try.underlying25 h; exact h1.trans hC
  obtain ⟨s, e0⟩ := string_at Try.underlying25 h 0 0 _ rfl rfl rfl (by omega)
  obtain ⟨v1, y1, n1, e1, h1, _⟩ := field_at Try.underlying25 h 1 1 _ rfl rfl (by kernel_rfl) (by omega)
  obtain ⟨p, e2⟩ := int_at Try.underlying25 h 2 2 _ rfl rfl rfl (by omega)
  obtain ⟨a, e3⟩ := int_at Try.underlying25 h 3 3 _ rfl rfl rfl (by omega)
  obtain ⟨q, e4⟩ := bool_at Try.underlying25 h 4 4 _ rfl rfl rfl (by omega)
  obtain ⟨v5, y5, n5, e5, h5, _⟩ := field_at Try.underlying25 h 5 5 _ rfl rfl (by kernel_rfl) (by omega)
  obtain ⟨A, n, cl, z, rfl, hn, hA⟩ := ls_open h1
  obtain ⟨B, nb, cb, rfl, hnb, hB⟩ := bks_open h5
  obtain ⟨c0, c1, c2, c3, c4, c5, rfl⟩ := six_list hlen
  simp only [List.getElem?_cons_zero, List.getElem?_cons_succ, Option.some.injEq] at e0 e1 e2 e3 e4 e5
  subst e0 e1 e2 e3 e4 e5
  exact ⟨s, A, n, cl, z, p, a, q, B, nb, cb, rfl, hA, hB, hn, hnb⟩
end

theorem walk (v0 : Value) (x : Int) (w : World) (h0 : Mir w v0) :
    Calls Try.prog 3 #[v0, .int .i64 x] w fun e w' => e = .returned (.bool true) ∧ Below w.heap.size w w' := by
  obtain ⟨s, A, n, cl, z, p, a, q, B, nb, cb, rfl, hA, hB, hn, hnb⟩ := h0
  exact apart_any s A n cl z p a q B nb cb x w hA hB hn hnb

set_option maxRecDepth 100000 in
theorem lifted (os : Os) (started : os.Started) (H : Type) (enc : TypeId × Value → H) :
    ReturnsInHanded {} Try.checked os 3 .any (Rows.layoutApartSpec.pre6 enc Try.prog Try.f3 Rows.layoutApartRow.domain false) (Rows.layoutApartSpec.post enc Try.prog Try.f3 false true false false) := by
  refine returnsInHanded_of_change (C := Try.checked) own started (by kernel_rfl) Try.func3
    (ChangeSpec.witness6 (enc := enc) (C := Try.checked) false ⟨#[], #[(.agg #[.string { data := #[] }, .slice none 0 0, .int .i64 0, .int .i64 0, .bool false, .slice none 0 0]), .int .i64 0], []⟩ 8 (by kernel_rfl) (by kernel_rfl) (by kernel_rfl) (by kernel_rfl)) ?_
  intro W base args ds gs before hval0 hW hcnd _
  have hval : ∀ (j : Nat) t v, Try.f3.params[j]? = some t → args[j]? = some v → Value.okWide Try.prog W .any base t v := hval0
  have hW' := hW
  obtain ⟨p, q, hA0, hV, rfl, hfz, hnd⟩ := hW
  have hA : DataW.TrodAll enc Try.prog W 0 (fun _ => true) true Try.f3.params.toList args.toList ds p := hA0
  rw [Try.params3] at hA hval
  obtain ⟨v0, vs0, d0, ds0, p0, q0, hargs, rfl, rfl, h0, r0⟩ := trodAll_cons hA
  obtain ⟨v1, vs1, d1, ds1, p1, q1, rfl, rfl, rfl, h1, r1⟩ := trodAll_cons r0
  obtain ⟨rfl, rfl, rfl⟩ := trodAll_nil r1
  obtain rfl : args = #[v0, v1] := by cases args; simp_all
  obtain ⟨rfl, rfl⟩ := trodVars_none hV
  obtain ⟨cs0, rfl, hsz0⟩ := okWide_struct Try.underlying25 (hval 0 25 v0 rfl rfl)
  have k0 := h0
  have lt0 : ∀ x ∈ p0, x.block < W.heap.size := by obtain ⟨m, hm⟩ := k0; exact DataW.trod_lt m _ _ _ hm
  have z0 : Mir W (.agg cs0) := by
    obtain ⟨fuel, hf⟩ := h0
    have := mir_open hf
    simpa [Value.cells] using this
  obtain ⟨a1, rfl, rfl, rfl, w1⟩ := open_int Try.underlying3 (hval 1 3 v1 rfl rfl) h1
  clear hA0 hval0
  refine (walk _ a1 W z0).mono fun e W' ⟨he, bel⟩ => ?_
  subst he
  exact ⟨_, rfl, _, _, _, [], _, [], hW', trodAll_mk1 (shut_bool Try.underlying4 _), (trodAll_cons_mk (Below.trod laidOut (by kernel_rfl) (of_decide_eq_true (by kernel_rfl)) k0 bel lt0) (trodAll_cons_mk (shut_int Try.underlying3 w1) trodAll_mk0)), rfl, bel.frame _, fun h => by cases h⟩

theorem over : Rows.layoutApartRow.holds Try.pinned (OpenSpec.ofChange Rows.layoutApartSpec) :=
  OpenClaim.holds_of_wide 3 Try.f3 rfl rfl rfl rfl rfl rfl rfl ⟨rfl, rfl, rfl, rfl, rfl⟩ rfl rfl rfl rfl rfl (by kernel_rfl) Try.func3 (by kernel_rfl)
    (of_decide_eq_true (by kernel_rfl)) (by unfold Func.isWrapper; first | (rw [if_pos (by decide +kernel)]; kernel_rfl) | (rw [if_neg (by decide +kernel)]; exact ⟨rfl, rfl⟩))
    (fun os started H enc _ => lifted os started H enc)
theorem proved : Rows.LayoutApartSaid := over
#print axioms proved
end Go.Proofs.Ythmdclgihgnjdaa.layoutApart
namespace Go.Proofs.Ythmdclgihgnjdaa
/-- The row, under a short name, for the claim. -/
theorem layoutApart_holds : Rows.LayoutApartSaid := layoutApart.proved
end Go.Proofs.Ythmdclgihgnjdaa
