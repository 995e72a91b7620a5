/-
  Every call of BorrowOverlaps returns true: any two trees are places that overlap, or not, as the document says. No condition.
-/
import Derived.Test.YtfhlmbdjfpoapaaRows
import Derived.Test.YtfhlmbdjfpoapaaBg
import Derived.WalkKit
import Derived.ProofKit
import Derived.OpenShut
import Derived.ChangeOld
import Derived.Below
import Derived.Deep.Slices
namespace Go.Proofs.Ytfhlmbdjfpoapaa.borrowOverlaps
open Go.ChangeShapes Go.WideShapes Go.ChangeAt Go.RowKit
set_option linter.unusedVariables false

theorem own : ownKnob Try.prog.godebug = none := by kernel_rfl
theorem laidOut : laidOutB Try.prog = true := by kernel_rfl

section
variable {H : Type} {enc : TypeId × Value → H} {w : World} {base : Nat} {held : Bool}
/-- A struct's field of one cell. -/
theorem field_at {spare : Nat → Bool} {t : TypeId} {fs : Array Field} {cs : List Value} {fuel : Nat} {x : DataW H × List MemPlace}
    (ht : Try.prog.underlying t = some (.struct fs)) (h : DataW.trod enc Try.prog w base spare held fuel t cs = some x) (j o : Nat) (f : Field) (hf : fs[j]? = some f) (ho : f.offset = o) (hc : Try.prog.cellsOf f.type = 1) (hl : o < cs.length) :
    ∃ v y n, cs[o]? = some v ∧ DataW.trod enc Try.prog w base spare held n f.type [v] = some y ∧ n < fuel := by
  obtain ⟨xs, n, hn, _, _, hlen, hg⟩ := DataW.trod_struct ht h
  have h1 := hg j f hf
  have hj : j < xs.length := by rw [hlen]; exact (Array.getElem?_eq_some_iff.1 hf).1
  rw [ho, hc, List.drop_eq_getElem_cons hl] at h1
  exact ⟨_, _, n, List.getElem?_eq_getElem hl, h1.trans (List.getElem?_eq_getElem hj), by omega⟩
theorem int_at {spare : Nat → Bool} {t : TypeId} {fs : Array Field} {cs : List Value} {fuel : Nat} {x : DataW H × List MemPlace}
    (ht : Try.prog.underlying t = some (.struct fs)) (h : DataW.trod enc Try.prog w base spare held fuel t cs = some x) (j o : Nat) (f : Field) (hf : fs[j]? = some f) (ho : f.offset = o) (hc : f.type = 3) (hl : o < cs.length) : ∃ z : Int, cs[o]? = some (.int .i64 z) := by
  obtain ⟨v, y, n, hv, hy, _⟩ := field_at ht h j o f hf ho (by rw [hc]; kernel_rfl) hl
  rw [hc] at hy
  obtain ⟨z, hz, _⟩ := DataW.trod_int Try.underlying3 hy
  injection hz with hz _
  exact ⟨z, by rw [hv, hz]⟩
theorem string_at {spare : Nat → Bool} {t : TypeId} {fs : Array Field} {cs : List Value} {fuel : Nat} {x : DataW H × List MemPlace}
    (ht : Try.prog.underlying t = some (.struct fs)) (h : DataW.trod enc Try.prog w base spare held fuel t cs = some x) (j o : Nat) (f : Field) (hf : fs[j]? = some f) (ho : f.offset = o) (hc : f.type = 9) (hl : o < cs.length) : ∃ z : ByteArray, cs[o]? = some (.string z) := by
  obtain ⟨v, y, n, hv, hy, _⟩ := field_at ht h j o f hf ho (by rw [hc]; kernel_rfl) hl
  rw [hc] at hy
  obtain ⟨z, hz, _⟩ := DataW.trod_string Try.underlying9 hy
  injection hz with hz _
  exact ⟨z, by rw [hv, hz]⟩
theorem slice_at {spare : Nat → Bool} {t e : TypeId} {fs : Array Field} {cs : List Value} {fuel : Nat} {x : DataW H × List MemPlace}
    (ht : Try.prog.underlying t = some (.struct fs)) (h : DataW.trod enc Try.prog w base spare held fuel t cs = some x) (j o : Nat) (f : Field) (hf : fs[j]? = some f) (ho : f.offset = o) (hc : Try.prog.cellsOf f.type = 1) (he : Try.prog.underlying f.type = some (.slice e)) (hl : o < cs.length) : ∃ A n k, cs[o]? = some (.slice A n k) := by
  obtain ⟨v, y, n, hv, hy, _⟩ := field_at ht h j o f hf ho hc hl
  rcases DataW.trod_slice he hy with ⟨h1, _⟩ | ⟨a, len, cap, _, _, _, _, h1, _⟩
  · injection h1 with h1 _; exact ⟨_, _, _, by rw [hv, h1]⟩
  · injection h1 with h1 _; exact ⟨_, _, _, by rw [hv, h1]⟩
theorem ten_list {cs : List Value} (h : cs.length = 10) : ∃ c0 c1 c2 c3 c4 c5 c6 c7 c8 c9, cs = [c0, c1, c2, c3, c4, c5, c6, c7, c8, c9] := by
  match cs, h with
  | [c0, c1, c2, c3, c4, c5, c6, c7, c8, c9], _ => exact ⟨c0, c1, c2, c3, c4, c5, c6, c7, c8, c9, rfl⟩
/-- A tree that can be read is a chain of first kids. -/
theorem spine_open : ∀ (fuel : Nat) (cs : List Value) (x : DataW H × List MemPlace), DataW.trod enc Try.prog w base (fun _ => true) held fuel 27 cs = some x → ∃ l, Spine w l (.agg cs.toArray) := by
  intro fuel
  induction fuel using Nat.strongRecOn with
  | ind fuel IH =>
    intro cs x h
    have hC : Try.prog.cellsOf 27 = 10 := by kernel_rfl
    have hlen : cs.length = 10 := by obtain ⟨_, _, _, _, h1, _, _⟩ := DataW.trod_struct Try.underlying27 h; exact h1.trans hC
    obtain ⟨z0, e0⟩ := int_at Try.underlying27 h 0 0 _ rfl rfl rfl (by omega)
    obtain ⟨z1, e1⟩ := int_at Try.underlying27 h 1 1 _ rfl rfl rfl (by omega)
    obtain ⟨z2, e2⟩ := int_at Try.underlying27 h 2 2 _ rfl rfl rfl (by omega)
    obtain ⟨s3, e3⟩ := string_at Try.underlying27 h 3 3 _ rfl rfl rfl (by omega)
    obtain ⟨v4, y4, n4, e4, h4, hn4⟩ := field_at Try.underlying27 h 4 4 _ rfl rfl (by kernel_rfl) (by omega)
    obtain ⟨A5, n5, k5, e5⟩ := slice_at (e := 25) Try.underlying27 h 5 5 _ rfl rfl (by kernel_rfl) Try.underlying23 (by omega)
    obtain ⟨xs, n, _, _, _, hxl, hg⟩ := DataW.trod_struct Try.underlying27 h
    have h6 : DataW.trod enc Try.prog w base (fun _ => true) held n 25 ((cs.drop 6).take (Try.prog.cellsOf 25)) = xs[6]? := hg 6 _ rfl
    have hC6 : Try.prog.cellsOf 25 = 4 := by kernel_rfl
    rw [hC6] at h6
    rw [List.getElem?_eq_getElem (by rw [hxl]; decide)] at h6
    have hl6 : ((cs.drop 6).take 4).length = 4 := by simp; omega
    obtain ⟨z6, e6⟩ := int_at Try.underlying25 h6 0 0 _ rfl rfl rfl (by omega)
    obtain ⟨s7, e7⟩ := string_at Try.underlying25 h6 1 1 _ rfl rfl rfl (by omega)
    obtain ⟨z8, e8⟩ := int_at Try.underlying25 h6 2 2 _ rfl rfl rfl (by omega)
    obtain ⟨A9, n9, k9, e9⟩ := slice_at (e := 25) Try.underlying25 h6 3 3 _ rfl rfl (by kernel_rfl) Try.underlying23 (by omega)
    obtain ⟨c0, c1, c2, c3, c4, c5, c6, c7, c8, c9, rfl⟩ := ten_list hlen
    simp only [List.getElem?_cons_zero, List.getElem?_cons_succ, List.drop_succ_cons, List.drop_zero, List.take_succ_cons, List.take_zero, Option.some.injEq] at e0 e1 e2 e3 e4 e5 e6 e7 e8 e9
    subst e0 e1 e2 e3 e4 e5 e6 e7 e8 e9
    rcases DataW.trod_slice Try.underlying22 h4 with ⟨h1, _⟩ | ⟨a, len, cap, elems, rest, m, hm, h1, _, _, _, _, hel, hat, _, _⟩
    · injection h1 with h1 _
      subst h1
      exact ⟨[⟨z0, z2, 0, 0, 0⟩], none, 0, z1, s3, A5, n5, k5, z6, s7, z8, A9, n9, k9, rfl, fun _ => rfl, fun h => absurd h (Nat.lt_irrefl 0)⟩
    · injection h1 with h1 _
      subst h1
      rw [hC] at hat
      by_cases h0 : len = 0
      · subst h0
        exact ⟨[⟨z0, z2, 0, 0, 0⟩], some a, cap, z1, s3, A5, n5, k5, z6, s7, z8, A9, n9, k9, rfl, fun _ => rfl, fun h => absurd h (Nat.lt_irrefl 0)⟩
      · have at0 := hat 0 (by omega)
        rw [List.getElem?_eq_getElem (by omega), Option.bind_eq_some_iff] at at0
        obtain ⟨cs0, hc0, ht0⟩ := at0
        obtain ⟨l, hl⟩ := IH m (by omega) cs0 _ ht0
        obtain ⟨_, hcl, hcell⟩ := World.cells?_some hc0
        obtain ⟨d0, d1, d2, d3, d4, d5, d6, d7, d8, d9, rfl⟩ := ten_list hcl
        have e0 : a.add (0 * 10) = a := by simp [Addr.add]
        rw [e0] at hcell
        have hspot : a.spot = none := by
          have h2 := World.cell?_spot ((hcell 0 (by omega)).trans rfl)
          simpa [Addr.add] using h2
        obtain ⟨b, off, spot⟩ := a
        simp only at hspot
        subst hspot
        have hc : ∀ i, i < 10 → w.cell? ⟨b, off + i, none⟩ = [d0, d1, d2, d3, d4, d5, d6, d7, d8, d9][i]? := fun i hi => by have := hcell i hi; rw [Go.WideShapes.add_plain] at this; exact this
        have hT : Ten w b off d0 d1 d2 d3 d4 d5 d6 d7 d8 d9 := ⟨hc 0 (by omega), hc 1 (by omega), hc 2 (by omega), hc 3 (by omega), hc 4 (by omega), hc 5 (by omega), hc 6 (by omega), hc 7 (by omega), hc 8 (by omega), hc 9 (by omega)⟩
        have hsec : ∃ sk sn : Int, 1 < len → w.cell? ⟨b, off + 10, none⟩ = some (.int .i64 sk) ∧ w.cell? ⟨b, off + 12, none⟩ = some (.int .i64 sn) := by
          by_cases h1 : 1 < len
          · have at1 := hat 1 h1
            rw [List.getElem?_eq_getElem (by omega), Option.bind_eq_some_iff] at at1
            obtain ⟨cs1, hc1, ht1⟩ := at1
            obtain ⟨_, hcl1, hcell1⟩ := World.cells?_some hc1
            obtain ⟨sk, hk⟩ := int_at Try.underlying27 ht1 0 0 _ rfl rfl rfl (by omega)
            obtain ⟨sn, hn⟩ := int_at Try.underlying27 ht1 2 2 _ rfl rfl rfl (by omega)
            have g0 := (hcell1 0 (by omega)).trans hk
            have g2 := (hcell1 2 (by omega)).trans hn
            rw [Go.Deep.add_add, Go.WideShapes.add_plain] at g0 g2
            exact ⟨sk, sn, fun _ => ⟨g0, g2⟩⟩
          · exact ⟨0, 0, fun h => absurd h h1⟩
        obtain ⟨sk, sn, hsec⟩ := hsec
        exact ⟨⟨z0, z2, len, sk, sn⟩ :: l, some ⟨b, off, none⟩, cap, z1, s3, A5, n5, k5, z6, s7, z8, A9, n9, k9, rfl, fun h => absurd h h0, fun _ => ⟨b, off, d0, d1, d2, d3, d4, d5, d6, d7, d8, d9, rfl, hT, hl, hsec⟩⟩
end

theorem walk (v0 v1 : Value) (w : World) (h0 : ∃ l, Spine w l v0) (h1 : ∃ l, Spine w l v1) :
    Calls Try.prog 3 #[v0, v1] w fun e w' => e = .returned (.bool true) ∧ Below w.heap.size w w' := by
  obtain ⟨l0, h0⟩ := h0
  obtain ⟨l1, h1⟩ := h1
  exact overlaps_any l0 l1 v0 v1 w h0 h1

set_option maxRecDepth 100000 in
theorem lifted (os : Os) (started : os.Started) (H : Type) (enc : TypeId × Value → H) :
    ReturnsInHanded {} Try.checked os 3 .any (Rows.borrowOverlapsSpec.pre6 enc Try.prog Try.f3 Rows.borrowOverlapsRow.domain false) (Rows.borrowOverlapsSpec.post enc Try.prog Try.f3 false true false false) := by
  refine returnsInHanded_of_change (C := Try.checked) own started (by kernel_rfl) Try.func3
    (ChangeSpec.witness6 (enc := enc) (C := Try.checked) false ⟨#[], #[(.agg #[.int .i64 0, .int .i64 0, .int .i64 0, .string { data := #[] }, .slice none 0 0, .slice none 0 0, .int .i64 0, .string { data := #[] }, .int .i64 0, .slice none 0 0]), (.agg #[.int .i64 0, .int .i64 0, .int .i64 0, .string { data := #[] }, .slice none 0 0, .slice none 0 0, .int .i64 0, .string { data := #[] }, .int .i64 0, .slice none 0 0])], []⟩ 8 (by kernel_rfl) (by kernel_rfl) (by kernel_rfl) (by kernel_rfl)) ?_
  intro W base args ds gs before hval0 hW hcnd _
  have hval : ∀ (j : Nat) t v, Try.f3.params[j]? = some t → args[j]? = some v → Value.okWide Try.prog W .any base t v := hval0
  have hW' := hW
  obtain ⟨p, q, hA0, hV, rfl, hfz, hnd⟩ := hW
  have hA : DataW.TrodAll enc Try.prog W 0 (fun _ => true) true Try.f3.params.toList args.toList ds p := hA0
  rw [Try.params3] at hA hval
  obtain ⟨v0, vs0, d0, ds0, p0, q0, hargs, rfl, rfl, h0, r0⟩ := trodAll_cons hA
  obtain ⟨v1, vs1, d1, ds1, p1, q1, rfl, rfl, rfl, h1, r1⟩ := trodAll_cons r0
  obtain ⟨rfl, rfl, rfl⟩ := trodAll_nil r1
  obtain rfl : args = #[v0, v1] := by cases args; simp_all
  obtain ⟨rfl, rfl⟩ := trodVars_none hV
  obtain ⟨cs0, rfl, hsz0⟩ := okWide_struct Try.underlying27 (hval 0 27 v0 rfl rfl)
  have k0 := h0
  have lt0 : ∀ x ∈ p0, x.block < W.heap.size := by obtain ⟨m, hm⟩ := k0; exact DataW.trod_lt m _ _ _ hm
  have z0 : ∃ l, Spine W l (.agg cs0) := by
    obtain ⟨fuel, hf⟩ := h0
    have := spine_open fuel _ _ hf
    simpa [Value.cells] using this
  obtain ⟨cs1, rfl, hsz1⟩ := okWide_struct Try.underlying27 (hval 1 27 v1 rfl rfl)
  have k1 := h1
  have lt1 : ∀ x ∈ p1, x.block < W.heap.size := by obtain ⟨m, hm⟩ := k1; exact DataW.trod_lt m _ _ _ hm
  have z1 : ∃ l, Spine W l (.agg cs1) := by
    obtain ⟨fuel, hf⟩ := h1
    have := spine_open fuel _ _ hf
    simpa [Value.cells] using this
  clear hA0 hval0
  refine (walk _ _ W z0 z1).mono fun e W' ⟨he, bel⟩ => ?_
  subst he
  exact ⟨_, rfl, _, _, _, [], _, [], hW', trodAll_mk1 (shut_bool Try.underlying4 _), (trodAll_cons_mk (Below.trod laidOut (by kernel_rfl) (of_decide_eq_true (by kernel_rfl)) k0 bel lt0) (trodAll_cons_mk (Below.trod laidOut (by kernel_rfl) (of_decide_eq_true (by kernel_rfl)) k1 bel lt1) trodAll_mk0)), rfl, bel.frame _, fun h => by cases h⟩

theorem over : Rows.borrowOverlapsRow.holds Try.pinned (OpenSpec.ofChange Rows.borrowOverlapsSpec) :=
  OpenClaim.holds_of_wide 3 Try.f3 rfl rfl rfl rfl rfl rfl rfl ⟨rfl, rfl, rfl, rfl, rfl⟩ rfl rfl rfl rfl rfl (by kernel_rfl) Try.func3 (by kernel_rfl)
    (of_decide_eq_true (by kernel_rfl)) (by unfold Func.isWrapper; first | (rw [if_pos (by decide +kernel)]; kernel_rfl) | (rw [if_neg (by decide +kernel)]; exact ⟨rfl, rfl⟩))
    (fun os started H enc _ => lifted os started H enc)
theorem proved : Rows.BorrowOverlapsSaid := over
#print axioms proved
end Go.Proofs.Ytfhlmbdjfpoapaa.borrowOverlaps
namespace Go.Proofs.Ytfhlmbdjfpoapaa
/-- The row, under a short name, for the claim. -/
theorem borrowOverlaps_holds : Rows.BorrowOverlapsSaid := borrowOverlaps.proved
end Go.Proofs.Ytfhlmbdjfpoapaa
