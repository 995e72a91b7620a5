/- HeapPlays: the law's state (the heap, the reference's heap, the addresses told), and how each call turns it. -/
import Derived.Test.YtefkaikedapokaaRe
namespace Go.Proofs.Ytefkaikedapokaa
open Go.RowKit
set_option linter.unusedSimpArgs false
set_option linter.unusedVariables false

structure Sp (W w : World) (base g rg : Nat) (a : Nat → Nat) (u : Nat → Nat → Bool) (vt : Value) (told : List Int) (v : Value) (L : List (Nat × Nat)) : Prop where
  heap : HeapAt w g a u
  ref : RefAt w base rg v L
  told : Ints w base vt told
  diff : Diff vt v
  trg : vt.ownBlock ≠ some rg
  below : Below W.heap.size W w
  size : base ≤ w.heap.size
  wb : W.heap.size ≤ base
  hg : g < base
  ha : ∀ k, k < 4 → a k < base ∧ W.heap.size ≤ a k
/-- The round's own act, in a block of its own. -/
structure Lo (w : World) (base ap rg : Nat) (v vt : Value) (c0 c1 c2 c3 : Int) : Prop where
  k0 : w.cell? ⟨ap, 0, none⟩ = some (.int .i64 c0)
  k1 : w.cell? ⟨ap, 1, none⟩ = some (.int .i64 c1)
  k2 : w.cell? ⟨ap, 2, none⟩ = some (.int .i64 c2)
  k3 : w.cell? ⟨ap, 3, none⟩ = some (.int .i64 c3)
  lb : base ≤ ap
  nr : ap ≠ rg
  nv : v.ownBlock ≠ some ap
  nt : vt.ownBlock ≠ some ap

theorem blks_own {w : World} {base : Nat} {v : Value} {L : List (Nat × Nat)} (h : Blks w base v L) {b : Nat} (hb : v.ownBlock = some b) : base ≤ b ∧ b < w.heap.size := by
  obtain ⟨_, h2⟩ := h
  rcases h2 with ⟨h2, _⟩ | ⟨g, cap, cur, hv, hg, hh, _⟩
  · rw [h2] at hb; cases hb
  · rw [hv] at hb; injection hb with hb; subst hb
    refine ⟨hg, ?_⟩
    rcases Nat.lt_or_ge g w.heap.size with h | h
    · exact h
    · rw [Array.getElem?_eq_none h] at hh; cases hh
theorem RefAt.at_block {w w' : World} {base rg : Nat} {v : Value} {L : List (Nat × Nat)} (h : RefAt w base rg v L) (h1 : w'.heap[rg]? = w.heap[rg]?) (h2 : ∀ b, v.ownBlock = some b → w'.heap[b]? = w.heap[b]?) : RefAt w' base rg v L := by
  refine ⟨(World.cell?_of_block (w := w) h1).trans h.cell, (World.frozen?_of_block (w := w) h1).trans h.frz, ?_, h.apart, h.small, h.lt⟩
  obtain ⟨k1, k2⟩ := h.row
  refine ⟨k1, ?_⟩
  rcases k2 with k2 | ⟨g, cap, cur, hv, hg, hh, r⟩
  · exact Or.inl k2
  · exact Or.inr ⟨g, cap, cur, hv, hg, (h2 g (by rw [hv]; rfl)).trans hh, r⟩
theorem ints_block {w w' : World} {base : Nat} {v : Value} {xs : List Int} (h : Ints w base v xs) (h2 : ∀ b, v.ownBlock = some b → w'.heap[b]? = w.heap[b]?) : Ints w' base v xs := by
  obtain ⟨k1, k2⟩ := h
  refine ⟨k1, ?_⟩
  rcases k2 with k2 | ⟨g, cap, cur, hv, hg, hh, r⟩
  · exact Or.inl k2
  · exact Or.inr ⟨g, cap, cur, hv, hg, (h2 g (by rw [hv]; rfl)).trans hh, r⟩

section
variable {W w w1 : World} {base g rg ap : Nat} {a : Nat → Nat} {u u' : Nat → Nat → Bool} {vt vt' v v' : Value} {told ys : List Int} {L L' : List (Nat × Nat)} {c0 c1 c2 c3 : Int}
theorem Sp.rlt (h : Sp W w base g rg a u vt told v L) : rg < w.heap.size := cell_lt h.ref.cell
theorem Sp.bel (h : Sp W w base g rg a u vt told v L) (hb : Below w.heap.size w w1) : Sp W w1 base g rg a u vt told v L :=
  ⟨h.heap.below hb, h.ref.below hb, ints_below h.told hb, h.diff, h.trg, bl_then h.below hb, Nat.le_trans h.size hb.size, h.wb, h.hg, h.ha⟩
theorem Lo.bel (h : Lo w base ap rg v vt c0 c1 c2 c3) (hb : Below w.heap.size w w1) : Lo w1 base ap rg v vt c0 c1 c2 c3 :=
  ⟨old_cell hb h.k0, old_cell hb h.k1, old_cell hb h.k2, old_cell hb h.k3, h.lb, h.nr, h.nv, h.nt⟩
theorem Lo.at_block (h : Lo w base ap rg v vt c0 c1 c2 c3) (hb : w1.heap[ap]? = w.heap[ap]?) (hv : v'.ownBlock ≠ some ap) (ht : vt'.ownBlock ≠ some ap) : Lo w1 base ap rg v' vt' c0 c1 c2 c3 :=
  ⟨(World.cell?_of_block (w := w) hb).trans h.k0, (World.cell?_of_block (w := w) hb).trans h.k1, (World.cell?_of_block (w := w) hb).trans h.k2, (World.cell?_of_block (w := w) hb).trans h.k3, h.lb, h.nr, hv, ht⟩
theorem Sp.heaps (h : Sp W w base g rg a u vt told v L) (hb : Hb a w w1) (hh : HeapAt w1 g a u') : Sp W w1 base g rg a u' vt told v L := by
  have far : ∀ b, base ≤ b → b < w.heap.size → w1.heap[b]? = w.heap[b]? := fun b h1 h2 => hb.block b h2 fun k hk e => by have := (h.ha k hk).1; omega
  exact ⟨hh, h.ref.at_block (far rg h.ref.lt h.rlt) fun b hb' => far b (blks_own h.ref.row hb').1 (blks_own h.ref.row hb').2, ints_hb h.told hb fun k hk => (h.ha k hk).1, h.diff, h.trg, hb.below h.below fun k hk => (h.ha k hk).2, Nat.le_trans h.size hb.size, h.wb, h.hg, h.ha⟩
theorem Lo.heaps (h : Lo w base ap rg v vt c0 c1 c2 c3) (hS : Sp W w base g rg a u vt told v L) (hb : Hb a w w1) : Lo w1 base ap rg v vt c0 c1 c2 c3 :=
  h.at_block (hb.block ap (cell_lt h.k0) fun k hk e => by have := (hS.ha k hk).1; have := h.lb; omega) h.nv h.nt
theorem Sp.refs (h : Sp W w base g rg a u vt told v L) (hR : RefAt w1 base rg v' L') (hb : Rb base rg v w v' w1) : Sp W w1 base g rg a u vt told v' L' := by
  refine ⟨h.heap.at_block (hb.below.block g h.hg) fun k hk => hb.below.block _ (h.ha k hk).1, hR, ints_block h.told fun b hb' => hb.block b (ints_size h.told hb') (fun e => h.trg (e ▸ hb')) (h.diff b hb'), fun b h1 h2 => ?_, h.trg, h.below.trans (hb.below.mono h.wb), Nat.le_trans h.size hb.below.size, h.wb, h.hg, h.ha⟩
  rcases hb.own b h2 with e | e
  · exact h.diff b h1 e
  · have := ints_size h.told h1; omega
theorem Lo.refs (h : Lo w base ap rg v vt c0 c1 c2 c3) (hb : Rb base rg v w v' w1) : Lo w1 base ap rg v' vt c0 c1 c2 c3 :=
  h.at_block (hb.block ap (cell_lt h.k0) h.nr h.nv) (fun e => by
    rcases hb.own ap e with e | e
    · exact h.nv e
    · have := cell_lt h.k0; simp only at this; omega) h.nt
theorem Sp.app (h : Sp W w base g rg a u vt told v L) (hA : App w base vt told ys vt' w1) : Sp W w1 base g rg a u vt' (told ++ ys) v L := by
  refine ⟨h.heap.grown h.told hA.grown h.hg fun k hk => (h.ha k hk).1, h.ref.at_block (hA.grown.block rg h.rlt fun e => h.trg e.symm) fun b hb => hA.grown.block b (blks_own h.ref.row hb).2 fun e => h.diff b e.symm hb, hA.ints, fun b h1 h2 => ?_, fun e => ?_, below_grown h.below h.told hA.grown h.wb (Nat.le_trans h.wb h.size), Nat.le_trans h.size hA.grown.size, h.wb, h.hg, h.ha⟩
  · rcases hA.at_ with e | e
    · exact h.diff b (e.symm.trans h1) h2
    · rw [e] at h1; injection h1 with h1; have := (blks_own h.ref.row h2).2; omega
  · rcases hA.at_ with e' | e'
    · exact h.trg (e'.symm.trans e)
    · rw [e'] at e; injection e with e; have := h.rlt; omega
theorem Lo.app (h : Lo w base ap rg v vt c0 c1 c2 c3) (hA : App w base vt told ys vt' w1) : Lo w1 base ap rg v vt' c0 c1 c2 c3 :=
  h.at_block (hA.grown.block ap (cell_lt h.k0) fun e => h.nt e.symm) h.nv fun e => by
    rcases hA.at_ with e' | e'
    · exact h.nt (e'.symm.trans e)
    · rw [e'] at e; injection e with e; have := cell_lt h.k0; simp only at this; omega
/-- The round's act is laid. -/
theorem Lo.made (h : Sp W w base g rg a u vt told v L) (c0 c1 c2 c3 : Int) : Lo (w.alloc (.cells #[.int .i64 c0, .int .i64 c1, .int .i64 c2, .int .i64 c3] 40)) base w.heap.size rg v vt c0 c1 c2 c3 := by
  refine ⟨by simp [go_sem], by simp [go_sem], by simp [go_sem], by simp [go_sem], h.size, ?_, fun e => ?_, fun e => ?_⟩
  · have := h.rlt; omega
  · have := (blks_own h.ref.row e).2; omega
  · have := ints_size h.told e; omega
end

set_option maxHeartbeats 1000000 in
theorem names_any (w : World) : Calls Try.prog 11 #[] w fun e w' => e = .returned (.bool true) ∧ w = w' := by
  go_enter Try.func11, Try.ntmps11
  go_wp2
  go_ret
  exact ⟨rfl, rfl⟩
end Go.Proofs.Ytefkaikedapokaa
