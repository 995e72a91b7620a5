/- Words for the laws over package heap: a slice of ints of the call's own, beside a heap. -/
import Derived.Test.YtefkaikedapokaaHg
namespace Go.Proofs.Ytefkaikedapokaa
open Go.RowKit
set_option linter.unusedSimpArgs false
set_option linter.unusedVariables false

theorem info3 : (Try.prog.info? 3).map (fun i => (i.zero, i.size, i.bytes)) = some (some (.int .i64 0), 1, 8) := by kernel_rfl

/-- The slice value v has the ints xs, in a row of the call's own at or behind block base. -/
def Ints (w : World) (base : Nat) (v : Value) (xs : List Int) : Prop := w.ownsRow base 3 1 v xs.length (xs.map (Value.int .i64))

theorem ints_nil (w : World) (base : Nat) : Ints w base (.slice none 0 0) [] := ⟨rfl, Or.inl ⟨rfl, rfl⟩⟩

theorem ints_open {w : World} {base : Nat} {v : Value} {xs : List Int} (h : Ints w base v xs) (hne : xs ≠ []) :
    ∃ g cap, v = .slice (some ⟨g, 0, none⟩) xs.length cap ∧ base ≤ g ∧ g < w.heap.size ∧ xs.length ≤ cap ∧ cap ≤ maxLen ∧ ∀ (i : Nat) (y : Int), xs[i]? = some y → w.cell? ⟨g, i, none⟩ = some (.int .i64 y) := by
  obtain ⟨h1, h2⟩ := h
  rcases h2 with ⟨_, h2⟩ | ⟨g, cap, cur, hv, hg, hh, h3, h4, h5, h6⟩
  · exact absurd (List.length_eq_zero_iff.1 h2) hne
  · refine ⟨g, cap, hv, hg, ?_, h3, h4, fun i y hi => ?_⟩
    · rcases Nat.lt_or_ge g w.heap.size with h | h
      · exact h
      · rw [Array.getElem?_eq_none h] at hh; cases hh
    · have hlt : i < xs.length := (List.getElem?_eq_some_iff.1 hi).1
      have hx : (cur.toList.take (xs.length * 1))[i]? = some (.int .i64 y) := by rw [h6, List.getElem?_map, hi]; rfl
      rw [List.getElem?_take_of_lt (by omega)] at hx
      have hcur : cur[i]? = some (.int .i64 y) := by simpa using hx
      simp [World.cell?, hh, hcur]

theorem ints_lt {w : World} {base : Nat} {v : Value} {xs : List Int} (h : Ints w base v xs) {b : Nat} (hb : v.ownBlock = some b) : base ≤ b := by
  obtain ⟨_, h2⟩ := h
  rcases h2 with ⟨h2, _⟩ | ⟨g, cap, cur, hv, hg, _⟩
  · rw [h2] at hb; cases hb
  · rw [hv] at hb; injection hb with hb; subst hb; exact hg

theorem ints_at {w w' : World} {base : Nat} {v : Value} {xs : List Int} (h : Ints w base v xs) (hb : ∀ b, base ≤ b → b < w.heap.size → w'.heap[b]? = w.heap[b]?) : Ints w' base v xs := by
  obtain ⟨h1, h2⟩ := h
  refine ⟨h1, ?_⟩
  rcases h2 with h2 | ⟨g, cap, cur, hv, hg, hh, r⟩
  · exact Or.inl h2
  · refine Or.inr ⟨g, cap, cur, hv, hg, ?_, r⟩
    rw [hb g hg, hh]
    rcases Nat.lt_or_ge g w.heap.size with h | h
    · exact h
    · rw [Array.getElem?_eq_none h] at hh; cases hh
theorem ints_below {w w' : World} {base : Nat} {v : Value} {xs : List Int} (h : Ints w base v xs) (hb : Below w.heap.size w w') : Ints w' base v xs := ints_at h fun b _ hl => hb.block b hl
theorem ints_hb {w w' : World} {base : Nat} {v : Value} {xs : List Int} {a : Nat → Nat} (h : Ints w base v xs) (hb : Hb a w w') (ha : ∀ k, k < 4 → a k < base) : Ints w' base v xs :=
  ints_at h fun b hl hs => hb.block b hs fun k hk e => by have := ha k hk; omega
/-- Another row's growth: its block is another. -/
theorem ints_grown {w w' : World} {base : Nat} {v u : Value} {xs : List Int} (h : Ints w base v xs) (hg : w.grownBy w' u.ownBlock) (hne : ∀ b, v.ownBlock = some b → u.ownBlock ≠ some b) : Ints w' base v xs := by
  obtain ⟨h1, h2⟩ := h
  refine ⟨h1, ?_⟩
  rcases h2 with h2 | ⟨g, cap, cur, hv, hl, hh, r⟩
  · exact Or.inl h2
  · refine Or.inr ⟨g, cap, cur, hv, hl, ?_, r⟩
    rw [hg.block g ?_ ?_, hh]
    · rcases Nat.lt_or_ge g w.heap.size with h | h
      · exact h
      · rw [Array.getElem?_eq_none h] at hh; cases hh
    · exact fun e => hne g (by rw [hv]; rfl) e.symm

theorem HeapAt.grown {w w' : World} {g base : Nat} {a : Nat → Nat} {u : Nat → Nat → Bool} {v : Value} {xs : List Int} (h : HeapAt w g a u) (hv : Ints w base v xs) (hg : w.grownBy w' v.ownBlock) (h0 : g < base) (ha : ∀ k, k < 4 → a k < base) : HeapAt w' g a u :=
  h.at_block (hg.block g h.lt_g fun e => by have := ints_lt hv e.symm; omega) fun k hk => hg.block (a k) (h.lt_a k hk) fun e => by have := ints_lt hv e.symm; have := ha k hk; omega

theorem below_grown {B base : Nat} {W w w' : World} {v : Value} {xs : List Int} (h : Below B W w) (hv : Ints w base v xs) (hg : w.grownBy w' v.ownBlock) (hB : B ≤ base) (hs : B ≤ w.heap.size) : Below B W w' :=
  h.grown hg hs fun k e => by have := ints_lt hv e; omega

/-- append(v, y) -/
theorem app_one {ops : Array Oper} {rest : List Oper} {o : Oper} {a : Act} {w : World} {Q : Exit → Act → World → Prop} (hgd : o.guard = none) (s x : Operand)
    (ho : o.op = .call { callee := .builtin .append, args := #[s, x], argTypes := #[27, 27] })
    (base : Nat) (v : Value) (xs : List Int) (hs : a.eval s = v) (hown : Ints w base v xs) (y : Int) (hl : xs.length < 1000000000) (hbase : base ≤ w.heap.size)
    (hx : a.eval x = .slice (some ⟨w.heap.size, 0, none⟩) 1 1)
    (h : ∀ v' w', Ints w' base v' (xs ++ [y]) → (w.alloc (.cells #[.int .i64 y] 3)).grownBy w' v.ownBlock → wpList Try.prog ops Q rest (a.put o.dst v') w') :
    wpList Try.prog ops Q (o :: rest) a (w.alloc (.cells #[.int .i64 y] 3)) := by
  obtain ⟨i0, hi, hz0, hz1, hz2⟩ := info_parts info3
  have hown' : Ints (w.alloc (.cells #[.int .i64 y] 3)) base v xs := ints_below hown (bl_one _ _)
  refine wpList_append_own _ hgd s x 27 ho base 3 i0 (.int .i64 0) 1 8 Try.underlying27 hi hz0 hz1 hz2 rfl (by decide) v xs.length _ hs hown' ⟨w.heap.size, 0, none⟩ 1 1 [.int .i64 y] hx rfl ?_ ?_ ?_ ?_ ?_ ?_
  · intro j u hj
    match j, hj with
    | 0, hj =>
      simp at hj
      subst hj
      simp [Addr.add, go_sem]
  · simp
    rfl
  · unfold maxLen; omega
  · omega
  · exact Nat.le_trans hbase (bl_one _ _).size
  · intro v' w' h1 h2 _
    refine h v' w' ?_ h2
    unfold Ints
    simpa using h1
end Go.Proofs.Ytefkaikedapokaa
