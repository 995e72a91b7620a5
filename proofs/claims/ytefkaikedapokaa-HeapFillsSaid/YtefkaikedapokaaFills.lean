/-
  Every call of HeapFills returns true: of each class as many blocks can be taken as there are, one behind the other; let go in any order they can be taken again. No condition.
-/
import Derived.Test.YtefkaikedapokaaRows
import Derived.Test.YtefkaikedapokaaHi
import Derived.WalkKit
import Derived.ProofKit
import Derived.OpenShut
import Derived.Below
namespace Go.Proofs.Ytefkaikedapokaa.heapFills
open Go.ChangeShapes Go.WideShapes Go.ChangeAt Go.RowKit
set_option linter.unusedVariables false      -- a walk need not use every 'w<i>' (that an integer argument fits its kind)

theorem own : ownKnob Try.prog.godebug = none := by kernel_rfl

theorem and127 (n : Int) (hw : (Lit.int .i64 n).wf = true) : 0 ≤ bits .and .i64 n 127 ∧ bits .and .i64 n 127 ≤ 127 := by
  have h : (BitVec.ofInt 64 n &&& BitVec.ofInt 64 127).toNat ≤ 127 := by
    rw [BitVec.toNat_and]
    exact Nat.le_trans Nat.and_le_right (by decide)
  show 0 ≤ IntKind.i64.wrap ((BitVec.ofInt 64 n &&& BitVec.ofInt 64 127).toNat : Int) ∧ _
  unfold bits
  show 0 ≤ IntKind.i64.wrap ((BitVec.ofInt 64 n &&& BitVec.ofInt 64 127).toNat : Int) ∧ IntKind.i64.wrap ((BitVec.ofInt 64 n &&& BitVec.ofInt 64 127).toNat : Int) ≤ 127
  rw [IntKind.wrap_i64]
  omega
theorem tmod_bd (t m : Int) (h : 0 < m) : 0 ≤ t.tmod m + m ∧ t.tmod m < m :=
  ⟨by have := Int.lt_tmod_of_pos t h; omega, Int.tmod_lt_of_pos t h⟩

theorem walk (n t : Int) (w0 : (Lit.int .i64 n).wf = true) (w : World) :
    Calls Try.prog 3 #[.int .i64 n, .int .i64 t] w fun e w' => e = .returned (.bool true) ∧ Below w.heap.size w w' := by
  obtain ⟨h0, h1⟩ := and127 n w0
  by_cases c0 : bits .and .i64 n 127 ≤ 4
  · obtain ⟨a, b⟩ := tmod_bd t 64 (by decide)
    exact fills_0 n t _ _ ((t.tmod 64 + 64) % 64).toNat rfl h0 c0 rfl a b (by omega) (by omega) w
  by_cases c1 : bits .and .i64 n 127 ≤ 16
  · obtain ⟨a, b⟩ := tmod_bd t 32 (by decide)
    exact fills_1 n t _ _ ((t.tmod 32 + 32) % 32).toNat rfl (by omega) c1 rfl a b (by omega) (by omega) w
  by_cases c2 : bits .and .i64 n 127 ≤ 64
  · obtain ⟨a, b⟩ := tmod_bd t 16 (by decide)
    exact fills_2 n t _ _ ((t.tmod 16 + 16) % 16).toNat rfl (by omega) c2 rfl a b (by omega) (by omega) w
  · obtain ⟨a, b⟩ := tmod_bd t 8 (by decide)
    exact fills_3 n t _ _ ((t.tmod 8 + 8) % 8).toNat rfl (by omega) (by omega) rfl a b (by omega) (by omega) w

set_option maxRecDepth 100000 in
theorem lifted (os : Os) (started : os.Started) (H : Type) (enc : TypeId × Value → H) :
    ReturnsInHanded {} Try.checked os 3 .any (Rows.heapFillsSpec.pre6 enc Try.prog Try.f3 Rows.heapFillsRow.domain false) (Rows.heapFillsSpec.post enc Try.prog Try.f3 false true false false) := by
  refine returnsInHanded_of_change (C := Try.checked) own started (by kernel_rfl) Try.func3
    (ChangeSpec.witness6 (enc := enc) (C := Try.checked) false ⟨#[], #[.int .i64 0, .int .i64 0], []⟩ 8 (by kernel_rfl) (by kernel_rfl) (by kernel_rfl) (by kernel_rfl)) ?_
  intro W base args ds gs before hval0 hW hcnd _
  have hval : ∀ (j : Nat) t v, Try.f3.params[j]? = some t → args[j]? = some v → Value.okWide Try.prog W .any base t v := hval0
  have hW' := hW
  obtain ⟨p, q, hA0, hV, rfl, hfz, hnd⟩ := hW
  have hA : DataW.TrodAll enc Try.prog W 0 (fun _ => true) true Try.f3.params.toList args.toList ds p := hA0
  rw [Try.params3] at hA hval
  obtain ⟨v0, vs0, d0, ds0, p0, q0, hargs, rfl, rfl, h0, r0⟩ := trodAll_cons hA
  obtain ⟨v1, vs1, d1, ds1, p1, q1, rfl, rfl, rfl, h1, r1⟩ := trodAll_cons r0
  obtain ⟨rfl, rfl, rfl⟩ := trodAll_nil r1
  obtain rfl : args = #[v0, v1] := by cases args; simp_all
  obtain ⟨rfl, rfl⟩ := trodVars_none hV
  obtain ⟨a0, rfl, rfl, rfl, w0⟩ := open_int Try.underlying3 (hval 0 3 v0 rfl rfl) h0
  obtain ⟨a1, rfl, rfl, rfl, w1⟩ := open_int Try.underlying3 (hval 1 3 v1 rfl rfl) h1
  clear hA0 hval0
  simp only [List.append_nil] at hW'
  refine (walk a0 a1 w0 W).mono fun e W' ⟨he, bel⟩ => ?_
  subst he
  exact ⟨_, rfl, _, _, _, [], _, [], hW', trodAll_mk1 (shut_bool Try.underlying4 _), (trodAll_cons_mk (shut_int Try.underlying3 w0) (trodAll_cons_mk (shut_int Try.underlying3 w1) trodAll_mk0)), rfl, bel.frame _, fun h => by cases h⟩

theorem over : Rows.heapFillsRow.holds Try.pinned (OpenSpec.ofChange Rows.heapFillsSpec) :=
  OpenClaim.holds_of_wide 3 Try.f3 rfl rfl rfl rfl rfl rfl rfl ⟨rfl, rfl, rfl, rfl, rfl⟩ rfl rfl rfl rfl rfl (by kernel_rfl) Try.func3 (by kernel_rfl)
    (of_decide_eq_true (by kernel_rfl)) (by unfold Func.isWrapper; first | (rw [if_pos (by decide +kernel)]; kernel_rfl) | (rw [if_neg (by decide +kernel)]; exact ⟨rfl, rfl⟩))
    (fun os started H enc _ => lifted os started H enc)

theorem proved : Rows.HeapFillsSaid := over
#print axioms proved
end Go.Proofs.Ytefkaikedapokaa.heapFills
namespace Go.Proofs.Ytefkaikedapokaa
/-- The row, under a short name, for the claim. -/
theorem heapFills_holds : Rows.HeapFillsSaid := heapFills.proved
end Go.Proofs.Ytefkaikedapokaa
