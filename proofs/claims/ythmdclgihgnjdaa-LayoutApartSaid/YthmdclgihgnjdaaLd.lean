/- LayoutApart: the contracts of Layout's place and of Layout. -/
import Derived.Test.YthmdclgihgnjdaaLc
import Derived.Maps.AppendAt
namespace Go.Proofs.Ythmdclgihgnjdaa
open Go.RowKit
set_option linter.unusedSimpArgs false
set_option linter.unusedVariables false

theorem info3 : (Try.prog.info? 3).map (fun i => (i.zero, i.size, i.bytes)) = some (some (.int .i64 0), 1, 8) := by kernel_rfl

/-- The slice value v has the ints xs, in a row of the call's own at or behind block base. -/
def Ints (w : World) (base : Nat) (v : Value) (xs : List Int) : Prop := w.ownsRow base 3 1 v xs.length (xs.map (Value.int .i64))

theorem ints_nil (w : World) (base : Nat) : Ints w base (.slice none 0 0) [] := ⟨rfl, Or.inl ⟨rfl, rfl⟩⟩

theorem ints_open {w : World} {base : Nat} {v : Value} {xs : List Int} (h : Ints w base v xs) (hne : xs ≠ []) :
    ∃ g cap, v = .slice (some ⟨g, 0, none⟩) xs.length cap ∧ base ≤ g ∧ g < w.heap.size ∧ xs.length ≤ cap ∧ cap ≤ maxLen ∧ ∀ (i : Nat) (y : Int), xs[i]? = some y → w.cell? ⟨g, i, none⟩ = some (.int .i64 y) := by
  obtain ⟨h1, h2⟩ := h
  rcases h2 with ⟨_, h2⟩ | ⟨g, cap, cur, hv, hg, hh, h3, h4, h5, h6⟩
  · exact absurd (List.length_eq_zero_iff.1 h2) hne
  · refine ⟨g, cap, hv, hg, ?_, h3, h4, fun i y hi => ?_⟩
    · rcases Nat.lt_or_ge g w.heap.size with h | h
      · exact h
      · rw [Array.getElem?_eq_none h] at hh; cases hh
    · have hlt : i < xs.length := (List.getElem?_eq_some_iff.1 hi).1
      have hx : (cur.toList.take (xs.length * 1))[i]? = some (.int .i64 y) := by rw [h6, List.getElem?_map, hi]; rfl
      rw [List.getElem?_take_of_lt (by omega)] at hx
      have hcur : cur[i]? = some (.int .i64 y) := by simpa using hx
      simp [World.cell?, hh, hcur]

theorem ints_lt {w : World} {base : Nat} {v : Value} {xs : List Int} (h : Ints w base v xs) {b : Nat} (hb : v.ownBlock = some b) : base ≤ b := by
  obtain ⟨_, h2⟩ := h
  rcases h2 with ⟨h2, _⟩ | ⟨g, cap, cur, hv, hg, _⟩
  · rw [h2] at hb; cases hb
  · rw [hv] at hb; injection hb with hb; subst hb; exact hg

theorem ints_at {w w' : World} {base : Nat} {v : Value} {xs : List Int} (h : Ints w base v xs) (hb : ∀ b, base ≤ b → b < w.heap.size → w'.heap[b]? = w.heap[b]?) : Ints w' base v xs := by
  obtain ⟨h1, h2⟩ := h
  refine ⟨h1, ?_⟩
  rcases h2 with h2 | ⟨g, cap, cur, hv, hg, hh, r⟩
  · exact Or.inl h2
  · refine Or.inr ⟨g, cap, cur, hv, hg, ?_, r⟩
    rw [hb g hg, hh]
    rcases Nat.lt_or_ge g w.heap.size with h | h
    · exact h
    · rw [Array.getElem?_eq_none h] at hh; cases hh
theorem ints_below {w w' : World} {base : Nat} {v : Value} {xs : List Int} (h : Ints w base v xs) (hb : Below w.heap.size w w') : Ints w' base v xs := ints_at h fun b _ hl => hb.block b hl
theorem ints_size {w : World} {base : Nat} {v : Value} {xs : List Int} (h : Ints w base v xs) {b : Nat} (hb : v.ownBlock = some b) : b < w.heap.size := by
  obtain ⟨_, h2⟩ := h
  rcases h2 with ⟨h2, _⟩ | ⟨g, cap, cur, hv, hg, hh, _⟩
  · rw [h2] at hb; cases hb
  · rw [hv] at hb; injection hb with hb; subst hb
    rcases Nat.lt_or_ge g w.heap.size with h | h
    · exact h
    · rw [Array.getElem?_eq_none h] at hh; cases hh
/-- What an append of v (in world w1) leaves. -/
structure App (w1 : World) (base : Nat) (v : Value) (xs ys : List Int) (v' : Value) (w' : World) : Prop where
  ints : Ints w' base v' (xs ++ ys)
  grown : w1.grownBy w' v.ownBlock
  at_ : v'.ownBlock = v.ownBlock ∨ v'.ownBlock = some w1.heap.size

theorem run_app {w : World} {base : Nat} {v : Value} {xs ys : List Int} (hown : Ints w base v xs) (ty : TypeId) (ad : Addr) (c : Nat) (hn : ∀ j y, ys[j]? = some y → w.cell? (ad.add j) = some (.int .i64 y)) (hl : xs.length + ys.length < 1000000000) (hbase : base ≤ w.heap.size) :
    ∃ v' w', (Builtin.append_ #[22, 22] ty #[v, .slice (some ad) ys.length c]).run Try.prog w = .ok v' w' ∧ App w base v xs ys v' w' := by
  obtain ⟨i0, hi, hz0, hz1, hz2⟩ := info_parts info3
  obtain ⟨v', w', h1, h2, h3, _, h5⟩ := run_append_own_at (P := Try.prog) w base 22 ty 3 i0 (.int .i64 0) 1 8 Try.underlying22 hi hz0 hz1 hz2 rfl (by decide) v xs.length _ hown ad ys.length c (ys.map (Value.int .i64)) (by simp)
    (fun j u hj => by
      rw [List.getElem?_map] at hj
      cases hy : ys[j]? with
      | none => rw [hy] at hj; cases hj
      | some y => rw [hy] at hj; injection hj with hj; subst hj; exact hn j y hy)
    (fun u hu => by obtain ⟨y, _, rfl⟩ := List.mem_map.1 hu; rfl) (by unfold maxLen; omega) (by omega) hbase
  refine ⟨v', w', h1, ?_, h3, h5⟩
  unfold Ints
  simpa using h2

theorem wp_app {o : Oper} {a : Act} {w : World} {K : Act → World → Prop} {Q : Exit → Act → World → Prop} (s x : Operand) (ho : o.op = .call { callee := .builtin .append, args := #[s, x], argTypes := #[22, 22] })
    (base : Nat) (v : Value) (xs ys : List Int) (hs : a.eval s = v) (hown : Ints w base v xs) (ad : Addr) (m c : Nat) (hx : a.eval x = .slice (some ad) m c) (hm : m = ys.length)
    (hn : ∀ j y, ys[j]? = some y → w.cell? (ad.add j) = some (.int .i64 y)) (hl : xs.length + ys.length < 1000000000) (hbase : base ≤ w.heap.size)
    (hK : ∀ v' w', App w base v xs ys v' w' → K (a.put o.dst v') w') : Oper.wp Try.prog o a w K Q := by
  subst hm
  obtain ⟨v', w', hr, h⟩ := run_app hown o.type ad c hn hl hbase
  unfold Oper.wp execOp
  simp only [ho, resolve, invoke, builtin, Sem.run_bind, Sem.run_pure, Result.andThen_ok, List.map_toArray, List.map_cons, List.map_nil, hs, hx, hr]
  exact hK _ _ h

/-- append(v, y) in a list of operations -/
theorem app_two {ops : Array Oper} {rest : List Oper} {o : Oper} {a : Act} {w : World} {Q : Exit → Act → World → Prop} (hgd : o.guard = none) (s x : Operand)
    (ho : o.op = .call { callee := .builtin .append, args := #[s, x], argTypes := #[22, 22] })
    (base : Nat) (v : Value) (xs : List Int) (hs : a.eval s = v) (hown : Ints w base v xs) (y : Int) (hl : xs.length < 100000000) (hbase : base ≤ w.heap.size)
    (hx : a.eval x = .slice (some ⟨w.heap.size, 0, none⟩) 1 1)
    (h : ∀ v' w', App (w.alloc (.cells #[.int .i64 y] 3)) base v xs [y] v' w' → wpList Try.prog ops Q rest (a.put o.dst v') w') :
    wpList Try.prog ops Q (o :: rest) a (w.alloc (.cells #[.int .i64 y] 3)) := by
  refine wpList_plain hgd fun K hK => ?_
  refine wp_app s x ho base v xs [y] hs (ints_below hown (bl_one _ _)) ⟨w.heap.size, 0, none⟩ 1 1 hx rfl ?_ (by simp; omega) (Nat.le_trans hbase (bl_one _ _).size) fun v' w' h1 => hK _ _ (h v' w' h1)
  intro j u hj
  match j, hj with
  | 0, hj =>
    simp at hj
    subst hj
    simp [Addr.add, go_sem]


def mx (z : Int) : Int := if z < 0 then 0 else z
theorem mx_bd (z : Int) (h : z ≤ 1073741824) : 0 ≤ mx z ∧ mx z ≤ 1073741824 := by unfold mx; split <;> omega
theorem mx_neg {z : Int} (h : z < 0) : mx z = 0 := if_pos h
theorem mx_nn {z : Int} (h : 0 ≤ z) : mx z = z := if_neg (by omega)
theorem mx_pos (z : Int) : 0 ≤ mx z := by unfold mx; split <;> omega
/-- How many words are given out ahead of local k, and where each lies. -/
def pre (pl : Nat → Bool) (z : Nat → Int) : Nat → Int
  | 0 => 0
  | k + 1 => if pl k then pre pl z k else pre pl z k + mx (z k)
def at_ (pl : Nat → Bool) (z : Nat → Int) (k : Nat) : Int := if pl k then -1 else pre pl z k
def ats (pl : Nat → Bool) (z : Nat → Int) : Nat → List Int
  | 0 => []
  | k + 1 => ats pl z k ++ [at_ pl z k]
theorem ats_len (pl : Nat → Bool) (z : Nat → Int) (k : Nat) : (ats pl z k).length = k := by
  induction k with
  | zero => rfl
  | succ k ih => simp [ats, ih]
theorem ats_get (pl : Nat → Bool) (z : Nat → Int) (n k : Nat) (hk : k < n) : (ats pl z n)[k]? = some (at_ pl z k) := by
  induction n with
  | zero => omega
  | succ n ih =>
    unfold ats
    by_cases e : k = n
    · subst e; rw [List.getElem?_append_right (by rw [ats_len]; omega), ats_len]; simp
    · rw [List.getElem?_append_left (by rw [ats_len]; omega)]; exact ih (by omega)
theorem pre_bd (pl : Nat → Bool) (z : Nat → Int) (n : Nat) (hz : ∀ k, k < n → z k ≤ 1073741824) : 0 ≤ pre pl z n ∧ pre pl z n ≤ n * 1073741824 := by
  induction n with
  | zero => simp [pre]
  | succ n ih =>
    have h1 := ih fun k hk => hz k (by omega)
    have h2 := mx_bd _ (hz n (by omega))
    unfold pre
    split <;> omega
theorem pre_mono (pl : Nat → Bool) (z : Nat → Int) (k n : Nat) (h : k ≤ n) : pre pl z k ≤ pre pl z n := by
  induction n with
  | zero => have : k = 0 := by omega
            subst this; exact Int.le_refl _
  | succ n ih =>
    by_cases e : k = n + 1
    · subst e; exact Int.le_refl _
    · have h1 := ih (by omega)
      have h2 := mx_pos (z n)
      have h3 : pre pl z (n + 1) = if pl n then pre pl z n else pre pl z n + mx (z n) := rfl
      rw [h3]
      split <;> omega

set_option maxHeartbeats 2000000 in
set_option maxRecDepth 100000 in
theorem place_yes (k : Nat) (fb wb pb g n c : Nat) (w : World) (hk : k < n) (kp : w.cell? ⟨pb, 0, none⟩ = some (.slice (some ⟨g, 0, none⟩) n c)) (kb : w.cell? ⟨g, k, none⟩ = some (.bool true)) :
    Calls Try.prog 8 #[.int .i64 k, .pointer (some ⟨pb, 0, none⟩), .pointer (some ⟨wb, 0, none⟩), .pointer (some ⟨fb, 0, none⟩)] w fun e w' => e = .returned (.int .i64 (-1)) ∧ w = w' := by
  have i0 : (0 : Int) ≤ (k : Int) := by omega
  have i1 : (k : Int) < (n : Int) := by omega
  go_enter Try.func8, Try.ntmps8
  go_wp2
  go_ret
  exact ⟨rfl, rfl⟩
set_option maxHeartbeats 2000000 in
set_option maxRecDepth 100000 in
theorem place_no (k : Nat) (fb wb pb g n c b o cl : Nat) (z W : Int) (w : World) (hk : k < n) (kp : w.cell? ⟨pb, 0, none⟩ = some (.slice (some ⟨g, 0, none⟩) n c)) (kb : w.cell? ⟨g, k, none⟩ = some (.bool false))
    (kw : w.cell? ⟨wb, 0, none⟩ = some (.int .i64 W)) (fw : w.frozen? ⟨wb, 0, none⟩ = false) (kf : w.cell? ⟨fb, 1, none⟩ = some (.slice (some ⟨b, o, none⟩) n cl)) (kz : w.cell? ⟨b, o + k, none⟩ = some (.int .i64 z)) (h0 : 0 ≤ W) (h1 : W ≤ 1073741824000) (hz : z ≤ 1073741824) :
    Calls Try.prog 8 #[.int .i64 k, .pointer (some ⟨pb, 0, none⟩), .pointer (some ⟨wb, 0, none⟩), .pointer (some ⟨fb, 0, none⟩)] w fun e w' => e = .returned (.int .i64 W) ∧ w' = (w.setCell ⟨wb, 0, none⟩ (.int .i64 (W + mx z))).drew := by
  have i0 : (0 : Int) ≤ (k : Int) := by omega
  have i1 : (k : Int) < (n : Int) := by omega
  go_enter Try.func8, Try.ntmps8
  go_wp2
  go_region
  all_goals go_wp2
  all_goals
    go_ret
    refine ⟨rfl, ?_⟩
    first
      | (rw [mx_nn (by assumption)]; done)
      | (rw [mx_nn (by assumption)])
      | (rw [mx_neg (by assumption), Int.add_zero])

structure Lw (w wr : World) (pb g n c cl : Nat) (A : Option Addr) (pl : Nat → Bool) (z : Nat → Int) (j : Nat) (v : Value) : Prop where
  kf : wr.cell? ⟨w.heap.size, 1, none⟩ = some (.slice A n cl)
  kw : wr.cell? ⟨w.heap.size + 1, 0, none⟩ = some (.int .i64 (pre pl z j))
  fw : wr.frozen? ⟨w.heap.size + 1, 0, none⟩ = false
  kp : wr.cell? ⟨pb, 0, none⟩ = some (.slice (some ⟨g, 0, none⟩) n c)
  kb : ∀ k, k < n → wr.cell? ⟨g, k, none⟩ = some (.bool (pl k))
  row : Ints wr (pb + 1) v (ats pl z j)
  below : Below w.heap.size w wr
  b1 : w.heap.size + 1 < g
  b2 : g < pb
  sz : pb + 1 ≤ wr.heap.size
theorem Lw.set {w wr : World} {pb g n c cl : Nat} {A : Option Addr} {pl : Nat → Bool} {z : Nat → Int} {j : Nat} {v : Value} (h : Lw w wr pb g n c cl A pl z j v) (v' : Value) (w' : World) (hj : j < n) (hl : j < 1000) (hp : pl j = false)
    (hA : App (((wr.setCell ⟨w.heap.size + 1, 0, none⟩ (.int .i64 (pre pl z j + mx (z j)))).drew).alloc (.cells #[.int .i64 (pre pl z j)] 3)) (pb + 1) v (ats pl z j) [pre pl z j] v' w') : Lw w w' pb g n c cl A pl z (j + 1) v' := by
  have b1 := h.b1
  have b2 := h.b2
  have far : ∀ b, b < pb + 1 → b ≠ w.heap.size + 1 → w'.heap[b]? = wr.heap[b]? := fun b hb hn => by
    have hs := h.sz
    have h1 := hA.grown.block b (by simp [World.setCell]; omega) (fun e => by have := ints_lt h.row e.symm; omega)
    rw [h1]
    rw [(bl_one ((wr.setCell ⟨w.heap.size + 1, 0, none⟩ (.int .i64 (pre pl z j + mx (z j)))).drew) _).block b (by simp [World.setCell]; omega)]
    exact Below.heap_setCell _ _ _ _ (fun e => hn e)
  have hwb : w'.heap[w.heap.size + 1]? = ((wr.setCell ⟨w.heap.size + 1, 0, none⟩ (.int .i64 (pre pl z j + mx (z j)))).drew).heap[w.heap.size + 1]? := by
    have hs := h.sz
    have h1 := hA.grown.block (w.heap.size + 1) (by simp [World.setCell]; omega) (fun e => by have := ints_lt h.row e.symm; omega)
    rw [h1]
    exact (bl_one ((wr.setCell ⟨w.heap.size + 1, 0, none⟩ (.int .i64 (pre pl z j + mx (z j)))).drew) _).block _ (by simp [World.setCell]; omega)
  have e1 : pre pl z (j + 1) = pre pl z j + mx (z j) := by show (if pl j then _ else _) = _; rw [hp]; rfl
  have e2 : ats pl z (j + 1) = ats pl z j ++ [pre pl z j] := by show _ ++ [at_ pl z j] = _; unfold at_; rw [hp]; rfl
  refine ⟨(World.cell?_of_block (w := wr) (far w.heap.size (by omega) (by omega))).trans h.kf, ?_, ?_, (World.cell?_of_block (w := wr) (far pb (by omega) (by omega))).trans h.kp, fun k hk => (World.cell?_of_block (w := wr) (far g (by omega) (by omega))).trans (h.kb k hk), ?_, ?_, b1, b2, ?_⟩
  · rw [e1]; exact (World.cell?_of_block hwb).trans (World.cell?_setCell_same _ _ _ h.kw)
  · exact (World.frozen?_of_block hwb).trans ((World.frozen?_setCell _ _ _ _).trans h.fw)
  · rw [e2]; exact hA.ints
  · exact (Below.grown ((bl_drew (bl_set h.below (Nat.le_succ _))).trans ((bl_one _ _).mono (Nat.le_trans h.below.size (by simp [World.setCell])))) hA.grown (Nat.le_trans h.below.size (by simp [World.setCell])) fun b hb => by have := ints_lt h.row hb; omega)
  · exact Nat.le_trans h.sz (Nat.le_trans (by simp [World.setCell]) hA.grown.size)
theorem Lw.keep {w wr : World} {pb g n c cl : Nat} {A : Option Addr} {pl : Nat → Bool} {z : Nat → Int} {j : Nat} {v : Value} (h : Lw w wr pb g n c cl A pl z j v) (v' : Value) (w' : World) (hj : j < n) (hp : pl j = true)
    (hA : App (wr.alloc (.cells #[.int .i64 (-1)] 3)) (pb + 1) v (ats pl z j) [-1] v' w') : Lw w w' pb g n c cl A pl z (j + 1) v' := by
  have b1 := h.b1
  have b2 := h.b2
  have far : ∀ b, b < pb + 1 → w'.heap[b]? = wr.heap[b]? := fun b hb => by
    have hs := h.sz
    have h1 := hA.grown.block b (by simp; omega) (fun e => by have := ints_lt h.row e.symm; omega)
    rw [h1]
    exact (bl_one wr _).block b (by omega)
  have e1 : pre pl z (j + 1) = pre pl z j := by show (if pl j then _ else _) = _; rw [hp]; rfl
  have e2 : ats pl z (j + 1) = ats pl z j ++ [-1] := by show _ ++ [at_ pl z j] = _; unfold at_; rw [hp]; rfl
  refine ⟨(World.cell?_of_block (w := wr) (far w.heap.size (by omega))).trans h.kf, ?_, (World.frozen?_of_block (w := wr) (far (w.heap.size + 1) (by omega))).trans h.fw, (World.cell?_of_block (w := wr) (far pb (by omega))).trans h.kp, fun k hk => (World.cell?_of_block (w := wr) (far g (by omega))).trans (h.kb k hk), ?_, ?_, b1, b2, ?_⟩
  · rw [e1]; exact (World.cell?_of_block (w := wr) (far (w.heap.size + 1) (by omega))).trans h.kw
  · rw [e2]; exact hA.ints
  · exact Below.grown (h.below.trans ((bl_one _ _).mono h.below.size)) hA.grown (Nat.le_trans h.below.size (by simp)) fun b hb => by have := ints_lt h.row hb; omega
  · exact Nat.le_trans h.sz (Nat.le_trans (by simp) hA.grown.size)
end Go.Proofs.Ythmdclgihgnjdaa
