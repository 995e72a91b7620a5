/- Appends beside a heap: three slices of ints of the call's own, each in a row of its own. -/
import Derived.Test.YtefkaikedapokaaHj
namespace Go.Proofs.Ytefkaikedapokaa
open Go.RowKit
set_option linter.unusedSimpArgs false
set_option linter.unusedVariables false

/-- Their rows are two. -/
def Diff (v v' : Value) : Prop := ∀ b, v.ownBlock = some b → v'.ownBlock ≠ some b
theorem diff_symm {v v' : Value} (h : Diff v v') : Diff v' v := fun b h1 h2 => h b h2 h1
theorem diff_nil (v : Value) : Diff v (.slice none 0 0) := fun b _ h => by cases h
theorem ints_size {w : World} {base : Nat} {v : Value} {xs : List Int} (h : Ints w base v xs) {b : Nat} (hb : v.ownBlock = some b) : b < w.heap.size := by
  obtain ⟨_, h2⟩ := h
  rcases h2 with ⟨h2, _⟩ | ⟨g, cap, cur, hv, hg, hh, _⟩
  · rw [h2] at hb; cases hb
  · rw [hv] at hb; injection hb with hb; subst hb
    rcases Nat.lt_or_ge g w.heap.size with h | h
    · exact h
    · rw [Array.getElem?_eq_none h] at hh; cases hh
theorem diff_app {w : World} {base : Nat} {v v' vo : Value} {zs : List Int} (h : Diff v vo) (ho : Ints w base vo zs) (hat : v'.ownBlock = v.ownBlock ∨ v'.ownBlock = some w.heap.size) : Diff v' vo := by
  intro b hb hc
  rcases hat with e | e
  · exact h b (e.symm.trans hb) hc
  · have := ints_size ho hc
    rw [e] at hb
    injection hb with hb
    omega

/-- What an append of v (in world w1) leaves. -/
structure App (w1 : World) (base : Nat) (v : Value) (xs ys : List Int) (v' : Value) (w' : World) : Prop where
  ints : Ints w' base v' (xs ++ ys)
  grown : w1.grownBy w' v.ownBlock
  at_ : v'.ownBlock = v.ownBlock ∨ v'.ownBlock = some w1.heap.size

theorem run_app {w : World} {base : Nat} {v : Value} {xs ys : List Int} (hown : Ints w base v xs) (ty : TypeId) (ad : Addr) (c : Nat) (hn : ∀ j y, ys[j]? = some y → w.cell? (ad.add j) = some (.int .i64 y)) (hl : xs.length + ys.length < 1000000000) (hbase : base ≤ w.heap.size) :
    ∃ v' w', (Builtin.append_ #[27, 27] ty #[v, .slice (some ad) ys.length c]).run Try.prog w = .ok v' w' ∧ App w base v xs ys v' w' := by
  obtain ⟨i0, hi, hz0, hz1, hz2⟩ := info_parts info3
  obtain ⟨v', w', h1, h2, h3, _, h5⟩ := run_append_own_at (P := Try.prog) w base 27 ty 3 i0 (.int .i64 0) 1 8 Try.underlying27 hi hz0 hz1 hz2 rfl (by decide) v xs.length _ hown ad ys.length c (ys.map (Value.int .i64)) (by simp)
    (fun j u hj => by
      rw [List.getElem?_map] at hj
      cases hy : ys[j]? with
      | none => rw [hy] at hj; cases hj
      | some y => rw [hy] at hj; injection hj with hj; subst hj; exact hn j y hy)
    (fun u hu => by obtain ⟨y, _, rfl⟩ := List.mem_map.1 hu; rfl) (by unfold maxLen; omega) (by omega) hbase
  refine ⟨v', w', h1, ?_, h3, h5⟩
  unfold Ints
  simpa using h2

theorem wp_app {o : Oper} {a : Act} {w : World} {K : Act → World → Prop} {Q : Exit → Act → World → Prop} (s x : Operand) (ho : o.op = .call { callee := .builtin .append, args := #[s, x], argTypes := #[27, 27] })
    (base : Nat) (v : Value) (xs ys : List Int) (hs : a.eval s = v) (hown : Ints w base v xs) (ad : Addr) (m c : Nat) (hx : a.eval x = .slice (some ad) m c) (hm : m = ys.length)
    (hn : ∀ j y, ys[j]? = some y → w.cell? (ad.add j) = some (.int .i64 y)) (hl : xs.length + ys.length < 1000000000) (hbase : base ≤ w.heap.size)
    (hK : ∀ v' w', App w base v xs ys v' w' → K (a.put o.dst v') w') : Oper.wp Try.prog o a w K Q := by
  subst hm
  obtain ⟨v', w', hr, h⟩ := run_app hown o.type ad c hn hl hbase
  unfold Oper.wp execOp
  simp only [ho, resolve, invoke, builtin, Sem.run_bind, Sem.run_pure, Result.andThen_ok, List.map_toArray, List.map_cons, List.map_nil, hs, hx, hr]
  exact hK _ _ h

/-- append(v, y) in a list of operations -/
theorem app_two {ops : Array Oper} {rest : List Oper} {o : Oper} {a : Act} {w : World} {Q : Exit → Act → World → Prop} (hgd : o.guard = none) (s x : Operand)
    (ho : o.op = .call { callee := .builtin .append, args := #[s, x], argTypes := #[27, 27] })
    (base : Nat) (v : Value) (xs : List Int) (hs : a.eval s = v) (hown : Ints w base v xs) (y : Int) (hl : xs.length < 100000000) (hbase : base ≤ w.heap.size)
    (hx : a.eval x = .slice (some ⟨w.heap.size, 0, none⟩) 1 1)
    (h : ∀ v' w', App (w.alloc (.cells #[.int .i64 y] 3)) base v xs [y] v' w' → wpList Try.prog ops Q rest (a.put o.dst v') w') :
    wpList Try.prog ops Q (o :: rest) a (w.alloc (.cells #[.int .i64 y] 3)) := by
  refine wpList_plain hgd fun K hK => ?_
  refine wp_app s x ho base v xs [y] hs (ints_below hown (bl_one _ _)) ⟨w.heap.size, 0, none⟩ 1 1 hx rfl ?_ (by simp; omega) (Nat.le_trans hbase (bl_one _ _).size) fun v' w' h1 => hK _ _ (h v' w' h1)
  intro j u hj
  match j, hj with
  | 0, hj =>
    simp at hj
    subst hj
    simp [Addr.add, go_sem]

/-- append as one step of a region that draws its order. -/
theorem step_app {ops : Array Oper} {o : Oper} {a : Act} {w : World} {K : Act → World → Prop} {Q : Exit → Act → World → Prop} {E : Prop} (hgd : o.guard = none) (s x : Operand)
    (ho : o.op = .call { callee := .builtin .append, args := #[s, x], argTypes := #[27, 27] })
    (base : Nat) (v : Value) (xs ys : List Int) (hs : a.eval s = v) (hown : Ints w base v xs) (ad : Addr) (m c : Nat) (hx : a.eval x = .slice (some ad) m c) (hm : m = ys.length)
    (hn : ∀ j y, ys[j]? = some y → w.cell? (ad.add j) = some (.int .i64 y)) (hl : xs.length + ys.length < 1000000000) (hbase : base ≤ w.heap.size)
    (hK : ∀ v' w', App w base v xs ys v' w' → K (a.put o.dst v') w') :
    if Region.wanted o (yielded ops a.tmps) = true then Oper.wp Try.prog o a w K Q else E := by
  have hw : Region.wanted o (yielded ops a.tmps) = true := by simp [Region.wanted, hgd]
  rw [if_pos hw]
  exact wp_app s x ho base v xs ys hs hown ad m c hx hm hn hl hbase hK

/-- The law's state: three slices in rows of their own, and the heap. -/
structure St (W w : World) (base g : Nat) (a : Nat → Nat) (u : Nat → Nat → Bool) (v6 v7 v8 : Value) (x6 x7 x8 : List Int) : Prop where
  heap : HeapAt w g a u
  i6 : Ints w base v6 x6
  i7 : Ints w base v7 x7
  i8 : Ints w base v8 x8
  d67 : Diff v6 v7
  d68 : Diff v6 v8
  d78 : Diff v7 v8
  below : Below W.heap.size W w
  size : base ≤ w.heap.size
  wb : W.heap.size ≤ base
  hg : g < base
  ha : ∀ k, k < 4 → a k < base ∧ W.heap.size ≤ a k

section
variable {W w w1 : World} {base g : Nat} {a : Nat → Nat} {u u' : Nat → Nat → Bool} {v6 v7 v8 v' : Value} {x6 x7 x8 ys : List Int}
theorem St.bel (h : St W w base g a u v6 v7 v8 x6 x7 x8) (hb : Below w.heap.size w w1) : St W w1 base g a u v6 v7 v8 x6 x7 x8 :=
  ⟨h.heap.below hb, ints_below h.i6 hb, ints_below h.i7 hb, ints_below h.i8 hb, h.d67, h.d68, h.d78, bl_then h.below hb, Nat.le_trans h.size hb.size, h.wb, h.hg, h.ha⟩
theorem St.heaps (h : St W w base g a u v6 v7 v8 x6 x7 x8) (hb : Hb a w w1) (hh : HeapAt w1 g a u') : St W w1 base g a u' v6 v7 v8 x6 x7 x8 :=
  ⟨hh, ints_hb h.i6 hb fun k hk => (h.ha k hk).1, ints_hb h.i7 hb fun k hk => (h.ha k hk).1, ints_hb h.i8 hb fun k hk => (h.ha k hk).1, h.d67, h.d68, h.d78, hb.below h.below fun k hk => (h.ha k hk).2, Nat.le_trans h.size hb.size, h.wb, h.hg, h.ha⟩
theorem St.app6 (h : St W w base g a u v6 v7 v8 x6 x7 x8) (hA : App w base v6 x6 ys v' w1) : St W w1 base g a u v' v7 v8 (x6 ++ ys) x7 x8 :=
  ⟨h.heap.grown h.i6 hA.grown h.hg fun k hk => (h.ha k hk).1, hA.ints, ints_grown h.i7 hA.grown (diff_symm h.d67), ints_grown h.i8 hA.grown (diff_symm h.d68), diff_app h.d67 h.i7 hA.at_, diff_app h.d68 h.i8 hA.at_, h.d78,
   below_grown h.below h.i6 hA.grown h.wb (Nat.le_trans h.wb h.size), Nat.le_trans h.size hA.grown.size, h.wb, h.hg, h.ha⟩
theorem St.turn (h : St W w base g a u v6 v7 v8 x6 x7 x8) : St W w base g a u v7 v8 v6 x7 x8 x6 :=
  ⟨h.heap, h.i7, h.i8, h.i6, h.d78, diff_symm h.d67, diff_symm h.d68, h.below, h.size, h.wb, h.hg, h.ha⟩
theorem St.app7 (h : St W w base g a u v6 v7 v8 x6 x7 x8) (hA : App w base v7 x7 ys v' w1) : St W w1 base g a u v6 v' v8 x6 (x7 ++ ys) x8 := (h.turn.app6 hA).turn.turn
theorem St.app8 (h : St W w base g a u v6 v7 v8 x6 x7 x8) (hA : App w base v8 x8 ys v' w1) : St W w1 base g a u v6 v7 v' x6 x7 (x8 ++ ys) := (h.turn.turn.app6 hA).turn
theorem St.fresh6 (h : St W w base g a u v6 v7 v8 x6 x7 x8) (hb : Below w.heap.size w w1) (hi : Ints w1 base v' ys) (hf : ∀ b, v'.ownBlock = some b → w.heap.size ≤ b) : St W w1 base g a u v' v7 v8 ys x7 x8 :=
  ⟨h.heap.below hb, hi, ints_below h.i7 hb, ints_below h.i8 hb, fun b h1 h2 => by have := hf b h1; have := ints_size h.i7 h2; omega, fun b h1 h2 => by have := hf b h1; have := ints_size h.i8 h2; omega, h.d78,
   bl_then h.below hb, Nat.le_trans h.size hb.size, h.wb, h.hg, h.ha⟩
theorem St.fresh7 (h : St W w base g a u v6 v7 v8 x6 x7 x8) (hb : Below w.heap.size w w1) (hi : Ints w1 base v' ys) (hf : ∀ b, v'.ownBlock = some b → w.heap.size ≤ b) : St W w1 base g a u v6 v' v8 x6 ys x8 := (h.turn.fresh6 hb hi hf).turn.turn
theorem St.fresh8 (h : St W w base g a u v6 v7 v8 x6 x7 x8) (hb : Below w.heap.size w w1) (hi : Ints w1 base v' ys) (hf : ∀ b, v'.ownBlock = some b → w.heap.size ≤ b) : St W w1 base g a u v6 v7 v' x6 x7 ys := (h.turn.turn.fresh6 hb hi hf).turn
end

/-! ### append(append([]int{}, xs[:T]...), xs[T+1:]...) -/
theorem ints_new (w : World) {base : Nat} (hb : base ≤ w.heap.size) : Ints ((w.alloc (.cells #[] 3)).drew) base (.slice (some ⟨w.heap.size, 0, none⟩) 0 0) [] := by
  refine ⟨rfl, Or.inr ⟨w.heap.size, 0, #[], rfl, hb, ?_, Nat.le_refl _, Nat.zero_le _, rfl, rfl⟩⟩
  show (w.heap.push _)[w.heap.size]? = _
  rw [Array.getElem?_push_size]
/-- The first of the two appends, as seen from the world ahead of the region. -/
theorem del_first {w w1 : World} {base : Nat} {v1 : Value} {xs ys : List Int} (hA : App ((w.alloc (.cells #[] 3)).drew) base (.slice (some ⟨w.heap.size, 0, none⟩) 0 0) xs ys v1 w1) :
    Below w.heap.size w w1 ∧ ∀ b, v1.ownBlock = some b → w.heap.size ≤ b := by
  have hs : ((w.alloc (.cells #[] 3)).drew).heap.size = w.heap.size + 1 := by simp
  refine ⟨(bl_drewN (bl_one w (.cells #[] 3)) 1).grown hA.grown (by show w.heap.size ≤ ((w.alloc (.cells #[] 3)).drew).heap.size; omega) (fun k hk => by injection hk with hk; rw [← hk]; exact Nat.le_refl _), fun b hb => ?_⟩
  rcases hA.at_ with e | e
  · rw [e] at hb; injection hb with hb; rw [← hb]; exact Nat.le_refl _
  · rw [e, hs] at hb; injection hb with hb; omega
theorem del_second {w w1 w2 : World} {base : Nat} {v1 v2 : Value} {xs ys : List Int} (hb : Below w.heap.size w w1) (hf : ∀ b, v1.ownBlock = some b → w.heap.size ≤ b) (hA : App w1 base v1 xs ys v2 w2) :
    Below w.heap.size w w2 ∧ ∀ b, v2.ownBlock = some b → w.heap.size ≤ b := by
  refine ⟨hb.grown hA.grown hb.size hf, fun b h => ?_⟩
  rcases hA.at_ with e | e
  · exact hf b (e.symm.trans h)
  · rw [e] at h; injection h with h; have := hb.size; omega
/-- Where xs[T+1:] begins. -/
theorem tail_at (g T n cap : Nat) (hn : n ≤ cap) : ∃ A : Addr, (if cap = T + 1 then some (⟨g, 0, none⟩ : Addr) else some ⟨g, T + 1, none⟩) = some A ∧ ∀ j, T + 1 + j < n → A.add j = ⟨g, T + 1 + j, none⟩ := by
  by_cases e : cap = T + 1
  · exact ⟨_, if_pos e, fun j hj => by omega⟩
  · exact ⟨_, if_neg e, fun j hj => by simp [Addr.add]⟩
theorem ints_all {w : World} {base g n cap : Nat} {xs : List Int} (h : Ints w base (.slice (some ⟨g, 0, none⟩) n cap) xs) : xs.length = n ∧ n ≤ cap ∧ ∀ (j : Nat) (y : Int), xs[j]? = some y → w.cell? ⟨g, j, none⟩ = some (.int .i64 y) := by
  by_cases e : xs = []
  · subst e
    obtain ⟨_, h2⟩ := h
    rcases h2 with ⟨h2, _⟩ | ⟨g', cap', cur, hv, _, _, hc, _⟩
    · cases h2
    · injection hv with h1 h2 h3
      subst h2 h3
      exact ⟨rfl, hc, fun j y hj => by simp at hj⟩
  · obtain ⟨g', cap', hv, _, _, hc, _, hget⟩ := ints_open h e
    injection hv with h1 h2 h3
    injection h1 with h1
    injection h1 with h1
    subst h1 h2 h3
    exact ⟨rfl, hc, hget⟩
theorem take_cells {w w' : World} (hb : Below w.heap.size w w') {g T : Nat} {xs : List Int} (h : ∀ (j : Nat) (y : Int), xs[j]? = some y → w.cell? ⟨g, j, none⟩ = some (.int .i64 y)) :
    ∀ j y, (xs.take T)[j]? = some y → w'.cell? ((⟨g, 0, none⟩ : Addr).add j) = some (.int .i64 y) := by
  intro j y hj
  have hlt : j < (xs.take T).length := (List.getElem?_eq_some_iff.1 hj).1
  rw [List.length_take] at hlt
  rw [List.getElem?_take_of_lt (by omega)] at hj
  have e : (⟨g, 0, none⟩ : Addr).add j = ⟨g, j, none⟩ := by unfold Addr.add; split <;> simp_all
  rw [e]
  exact old_cell hb (h j y hj)
theorem drop_cells {w w' : World} (hb : Below w.heap.size w w') {g T n : Nat} {A : Addr} {xs : List Int} (hn : xs.length = n) (hA : ∀ j, T + 1 + j < n → A.add j = ⟨g, T + 1 + j, none⟩) (h : ∀ (j : Nat) (y : Int), xs[j]? = some y → w.cell? ⟨g, j, none⟩ = some (.int .i64 y)) :
    ∀ j y, (xs.drop (T + 1))[j]? = some y → w'.cell? (A.add j) = some (.int .i64 y) := by
  intro j y hj
  rw [List.getElem?_drop] at hj
  have hlt : T + 1 + j < xs.length := (List.getElem?_eq_some_iff.1 hj).1
  rw [hA j (by omega)]
  exact old_cell hb (h _ y hj)
theorem len_take {xs : List Int} {n T : Nat} (hn : xs.length = n) (hT : T < n) : T = (xs.take T).length := by rw [List.length_take]; omega
theorem len_drop {xs : List Int} {n T : Nat} (hn : xs.length = n) : n - (T + 1) = (xs.drop (T + 1)).length := by rw [List.length_drop]; omega
theorem len_small1 {xs : List Int} {n T : Nat} (hn : xs.length = n) (h : n ≤ 1000) : ([] : List Int).length + (xs.take T).length < 1000000000 := by rw [List.length_take]; simp; omega
theorem len_small2 {xs : List Int} {n T : Nat} (hn : xs.length = n) (h : n ≤ 1000) : (([] : List Int) ++ xs.take T).length + (xs.drop (T + 1)).length < 1000000000 := by simp; omega
end Go.Proofs.Ytefkaikedapokaa
