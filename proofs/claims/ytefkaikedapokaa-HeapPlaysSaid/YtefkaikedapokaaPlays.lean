/-
  Every call of HeapPlays returns true: a heap under any calls has the document's blocks. No condition.
-/
import Derived.Test.YtefkaikedapokaaRows
import Derived.Test.YtefkaikedapokaaRh
import Derived.WalkKit
import Derived.ProofKit
import Derived.OpenShut
import Derived.ChangeOld
import Derived.Below
import Derived.Deep.Slices
namespace Go.Proofs.Ytefkaikedapokaa.heapPlays
open Go.ChangeShapes Go.WideShapes Go.ChangeAt Go.RowKit
set_option linter.unusedVariables false

theorem own : ownKnob Try.prog.godebug = none := by kernel_rfl
theorem laidOut : laidOutB Try.prog = true := by kernel_rfl

/-- A cell of a struct's own, of one field. -/
theorem field_at {H : Type} {enc : TypeId × Value → H} {w : World} {base : Nat} {spare : Nat → Bool} {held : Bool} {t : TypeId} {fs : Array Field} {cs : List Value} {fuel : Nat} {x : DataW H × List MemPlace}
    (ht : Try.prog.underlying t = some (.struct fs)) (h : DataW.trod enc Try.prog w base spare held fuel t cs = some x) (j o : Nat) (f : Field) (hf : fs[j]? = some f) (ho : f.offset = o) (hc : Try.prog.cellsOf f.type = 1) (hl : o < cs.length) :
    ∃ v y n, cs[o]? = some v ∧ DataW.trod enc Try.prog w base spare held n f.type [v] = some y := by
  obtain ⟨xs, n, _, _, _, hlen, hg⟩ := DataW.trod_struct ht h
  have h1 := hg j f hf
  have hj : j < xs.length := by rw [hlen]; exact (Array.getElem?_eq_some_iff.1 hf).1
  rw [ho, hc, List.drop_eq_getElem_cons hl] at h1
  exact ⟨_, _, n, List.getElem?_eq_getElem hl, h1.trans (List.getElem?_eq_getElem hj)⟩

theorem acts_open {H : Type} {enc : TypeId × Value → H} {w : World} {base : Nat} {held : Bool} {fuel : Nat} {a : Option Addr} {len cap : Nat} {x : DataW H × List MemPlace}
    (h : DataW.trod enc Try.prog w base (fun _ => true) held fuel 33 [.slice a len cap] = some x) : ∃ z, Acts w a len z := by
  rcases Go.Deep.open_slice Try.underlying33 h with ⟨hcs, _⟩ | ⟨ad, l, c, m, n, D, Pl, hcs, _, hle, _, hm, _, hel⟩
  · injection hcs with hcs _
    injection hcs with h1 h2 h3
    subst h2
    exact ⟨fun _ _ => 0, fun i hi => absurd hi (Nat.not_lt_zero _)⟩
  · injection hcs with hcs _
    injection hcs with h1 h2 h3
    subst h1 h2 h3
    have hC : Try.prog.cellsOf 40 = 4 := by kernel_rfl
    by_cases h0 : len = 0
    · exact ⟨fun _ _ => 0, fun i hi => absurd hi (by omega)⟩
    have hspot : ad.spot = none := by
      obtain ⟨cs, hc, ht⟩ := hel 0 (by rw [hm, if_pos rfl]; omega)
      rw [hC] at hc
      obtain ⟨_, hcl, hat⟩ := World.cells?_some hc
      have h1 := hat 0 (by omega)
      rw [List.getElem?_eq_getElem (by omega)] at h1
      have h2 := World.cell?_spot h1
      simpa [Addr.add] using h2
    obtain ⟨b, off, spot⟩ := ad
    simp only at hspot
    subst hspot
    have hall : ∀ i, i < len → ∃ y : Nat → Int, ∃ b' off', (⟨b, off, none⟩ : Addr) = ⟨b', off', none⟩ ∧ w.cell? ⟨b', off' + i * 4, none⟩ = some (.int .i64 (y 0)) ∧ w.cell? ⟨b', off' + i * 4 + 1, none⟩ = some (.int .i64 (y 1)) ∧ w.cell? ⟨b', off' + i * 4 + 2, none⟩ = some (.int .i64 (y 2)) ∧ w.cell? ⟨b', off' + i * 4 + 3, none⟩ = some (.int .i64 (y 3)) := by
      intro i hi
      obtain ⟨cs, hc, ht⟩ := hel i (by rw [hm, if_pos rfl]; omega)
      rw [hC] at hc
      obtain ⟨_, hcl, hat⟩ := World.cells?_some hc
      have go : ∀ j, j < 4 → ∃ z : Int, cs[j]? = some (.int .i64 z) := by
        intro j hj
        match j, hj with
        | 0, _ => obtain ⟨v, y, n, hv, hy⟩ := field_at Try.underlying40 ht 0 0 _ rfl rfl (by kernel_rfl) (by omega)
                  obtain ⟨z, hz, _⟩ := DataW.trod_int Try.underlying3 hy
                  injection hz with hz _; exact ⟨z, by rw [hv, hz]⟩
        | 1, _ => obtain ⟨v, y, n, hv, hy⟩ := field_at Try.underlying40 ht 1 1 _ rfl rfl (by kernel_rfl) (by omega)
                  obtain ⟨z, hz, _⟩ := DataW.trod_int Try.underlying3 hy
                  injection hz with hz _; exact ⟨z, by rw [hv, hz]⟩
        | 2, _ => obtain ⟨v, y, n, hv, hy⟩ := field_at Try.underlying40 ht 2 2 _ rfl rfl (by kernel_rfl) (by omega)
                  obtain ⟨z, hz, _⟩ := DataW.trod_int Try.underlying3 hy
                  injection hz with hz _; exact ⟨z, by rw [hv, hz]⟩
        | 3, _ => obtain ⟨v, y, n, hv, hy⟩ := field_at Try.underlying40 ht 3 3 _ rfl rfl (by kernel_rfl) (by omega)
                  obtain ⟨z, hz, _⟩ := DataW.trod_int Try.underlying3 hy
                  injection hz with hz _; exact ⟨z, by rw [hv, hz]⟩
      obtain ⟨z0, e0⟩ := go 0 (by omega)
      obtain ⟨z1, e1⟩ := go 1 (by omega)
      obtain ⟨z2, e2⟩ := go 2 (by omega)
      obtain ⟨z3, e3⟩ := go 3 (by omega)
      have hcell : ∀ j, j < 4 → w.cell? ((⟨b, off, none⟩ : Addr).add (i * 4 + j)) = cs[j]? := fun j hj => by rw [← Go.Deep.add_add]; exact hat j hj
      refine ⟨fun j => if j = 0 then z0 else if j = 1 then z1 else if j = 2 then z2 else z3, b, off, rfl, ?_, ?_, ?_, ?_⟩
      · have := (hcell 0 (by omega)).trans e0; rw [Go.WideShapes.add_plain] at this; simpa using this
      · have := (hcell 1 (by omega)).trans e1; rw [Go.WideShapes.add_plain] at this; simpa [Nat.add_assoc] using this
      · have := (hcell 2 (by omega)).trans e2; rw [Go.WideShapes.add_plain] at this; simpa [Nat.add_assoc] using this
      · have := (hcell 3 (by omega)).trans e3; rw [Go.WideShapes.add_plain] at this; simpa [Nat.add_assoc] using this
    refine ⟨fun i => if hi : i < len then Classical.choose (hall i hi) else fun _ => 0, fun i hi => ?_⟩
    have h := Classical.choose_spec (hall i hi)
    obtain ⟨b, off, e, k⟩ := h
    refine ⟨b, off, by rw [e], ?_⟩
    simp only [dif_pos hi]
    exact k

theorem walk (a0 : Option Addr) (len0 cap0 : Nat) (w : World) (h0 : ∃ z, Acts w a0 len0 z) :
    Calls Try.prog 4 #[.slice a0 len0 cap0] w fun e w' => e = .returned (.bool true) ∧ Below w.heap.size w w' := by
  obtain ⟨z0, h0⟩ := h0
  exact plays_any a0 len0 cap0 z0 w h0

set_option maxRecDepth 100000 in
theorem lifted (os : Os) (started : os.Started) (H : Type) (enc : TypeId × Value → H) :
    ReturnsInHanded {} Try.checked os 4 .any (Rows.heapPlaysSpec.pre6 enc Try.prog Try.f4 Rows.heapPlaysRow.domain false) (Rows.heapPlaysSpec.post enc Try.prog Try.f4 false true false false) := by
  refine returnsInHanded_of_change (C := Try.checked) own started (by kernel_rfl) Try.func4
    (ChangeSpec.witness6 (enc := enc) (C := Try.checked) false ⟨#[], #[.slice none 0 0], []⟩ 8 (by kernel_rfl) (by kernel_rfl) (by kernel_rfl) (by kernel_rfl)) ?_
  intro W base args ds gs before hval0 hW hcnd _
  have hval : ∀ (j : Nat) t v, Try.f4.params[j]? = some t → args[j]? = some v → Value.okWide Try.prog W .any base t v := hval0
  have hW' := hW
  obtain ⟨p, q, hA0, hV, rfl, hfz, hnd⟩ := hW
  have hA : DataW.TrodAll enc Try.prog W 0 (fun _ => true) true Try.f4.params.toList args.toList ds p := hA0
  rw [Try.params4] at hA hval
  obtain ⟨v0, vs0, d0, ds0, p0, q0, hargs, rfl, rfl, h0, r0⟩ := trodAll_cons hA
  obtain ⟨rfl, rfl, rfl⟩ := trodAll_nil r0
  obtain rfl : args = #[v0] := by cases args; simp_all
  obtain ⟨rfl, rfl⟩ := trodVars_none hV
  obtain ⟨a0, len0, cap0, rfl⟩ := okWide_slice Try.underlying33 (hval 0 33 v0 rfl rfl)
  have k0 := h0
  have lt0 : ∀ x ∈ p0, x.block < W.heap.size := by obtain ⟨m, hm⟩ := k0; exact DataW.trod_lt m _ _ _ hm
  have z0 : ∃ z, Acts W a0 len0 z := by
    obtain ⟨fuel, hf⟩ := h0
    exact acts_open hf
  clear hA0 hval0
  refine (walk a0 len0 cap0 W z0).mono fun e W' ⟨he, bel⟩ => ?_
  subst he
  exact ⟨_, rfl, _, _, _, [], _, [], hW', trodAll_mk1 (shut_bool Try.underlying4 _), (trodAll_cons_mk (Below.trod laidOut (by kernel_rfl) (of_decide_eq_true (by kernel_rfl)) k0 bel lt0) trodAll_mk0), rfl, bel.frame _, fun h => by cases h⟩

theorem over : Rows.heapPlaysRow.holds Try.pinned (OpenSpec.ofChange Rows.heapPlaysSpec) :=
  OpenClaim.holds_of_wide 4 Try.f4 rfl rfl rfl rfl rfl rfl rfl ⟨rfl, rfl, rfl, rfl, rfl⟩ rfl rfl rfl rfl rfl (by kernel_rfl) Try.func4 (by kernel_rfl)
    (of_decide_eq_true (by kernel_rfl)) (by unfold Func.isWrapper; first | (rw [if_pos (by decide +kernel)]; kernel_rfl) | (rw [if_neg (by decide +kernel)]; exact ⟨rfl, rfl⟩))
    (fun os started H enc _ => lifted os started H enc)
theorem proved : Rows.HeapPlaysSaid := over
#print axioms proved
end Go.Proofs.Ytefkaikedapokaa.heapPlays
namespace Go.Proofs.Ytefkaikedapokaa
/-- The row, under a short name, for the claim. -/
theorem heapPlays_holds : Rows.HeapPlaysSaid := heapPlays.proved
end Go.Proofs.Ytefkaikedapokaa
