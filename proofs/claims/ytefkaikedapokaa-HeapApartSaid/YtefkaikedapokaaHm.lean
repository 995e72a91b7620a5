/- HeapApart: the block that lets one of the blocks go, as a theorem of its own. -/
import Derived.Test.YtefkaikedapokaaHk
import Derived.Deep.CutBlock
import Derived.Deep.DeepCutAuto
import Derived.BigQuiet
namespace Go.Proofs.Ytefkaikedapokaa
open Go.RowKit
set_option linter.unusedSimpArgs false
set_option linter.unusedVariables false

theorem and127 (n : Int) : 0 ≤ bits .and .i64 n 127 ∧ bits .and .i64 n 127 ≤ 127 := by
  have h : (BitVec.ofInt 64 n &&& BitVec.ofInt 64 127).toNat ≤ 127 := by
    rw [BitVec.toNat_and]
    exact Nat.le_trans Nat.and_le_right (by decide)
  unfold bits
  show 0 ≤ IntKind.i64.wrap ((BitVec.ofInt 64 n &&& BitVec.ofInt 64 127).toNat : Int) ∧ IntKind.i64.wrap ((BitVec.ofInt 64 n &&& BitVec.ofInt 64 127).toNat : Int) ≤ 127
  rw [IntKind.wrap_i64]
  omega
def adr (p : Nat × Nat) : Int := (addr p.1 p.2 : Nat)
def szz (p : Nat × Nat) : Int := (sz p.1 : Nat)
def kls (p : Nat × Nat) : Int := (p.1 : Nat)
def howMany (k : Nat) (L : List (Nat × Nat)) : Nat := L.countP (fun p => p.1 == k)
theorem howMany_le (k : Nat) (L : List (Nat × Nat)) : howMany k L ≤ L.length := List.countP_le_length
theorem take_snoc' {α : Type} (L : List α) (j : Nat) (p : α) (h : L[j]? = some p) : L.take (j + 1) = L.take j ++ [p] := by
  obtain ⟨hlt, e⟩ := List.getElem?_eq_some_iff.1 h
  rw [List.take_succ_eq_append_getElem hlt, e]
theorem howMany_yes {k : Nat} {L : List (Nat × Nat)} {j : Nat} {p : Nat × Nat} (h : L[j]? = some p) (e : p.1 = k) : howMany k (L.take (j + 1)) = howMany k (L.take j) + 1 := by
  unfold howMany; rw [take_snoc' L j p h, List.countP_append]; simp [e]
theorem howMany_no {k : Nat} {L : List (Nat × Nat)} {j : Nat} {p : Nat × Nat} (h : L[j]? = some p) (e : p.1 ≠ k) : howMany k (L.take (j + 1)) = howMany k (L.take j) := by
  unfold howMany; rw [take_snoc' L j p h, List.countP_append]; simp [e]
/-- A row that is read at j. -/
theorem ints_cell {w : World} {base : Nat} {v : Value} {α : Type} {L : List α} {f : α → Int} (h : Ints w base v (L.map f)) {j : Nat} {p : α} (hp : L[j]? = some p) :
    ∃ g cap, v = .slice (some ⟨g, 0, none⟩) L.length cap ∧ base ≤ g ∧ L.length ≤ cap ∧ w.cell? ⟨g, j, none⟩ = some (.int .i64 (f p)) := by
  obtain ⟨g, cap, hv, hg, _, hc, _, hget⟩ := ints_open h (by intro e; have := congrArg List.length e; simp at this; rw [this] at hp; cases hp)
  rw [List.length_map] at hv hc
  exact ⟨g, cap, hv, hg, hc, hget j (f p) (by rw [List.getElem?_map, hp]; rfl)⟩
theorem ints_len {w : World} {base : Nat} {v : Value} {α : Type} {L : List α} {f : α → Int} (h : Ints w base v (L.map f)) : ∃ A cap, v = .slice A L.length cap ∧ L.length ≤ cap := by
  by_cases e : L = []
  · subst e
    obtain ⟨_, h2⟩ := h
    rcases h2 with ⟨h2, _⟩ | ⟨g, cap, cur, hv, _, _, hc, _⟩
    · exact ⟨none, 0, h2, Nat.le_refl _⟩
    · exact ⟨_, cap, hv, hc⟩
  · obtain ⟨g, cap, hv, hg, _, hc, _, hget⟩ := ints_open h (by intro e'; exact e (by simpa using e'))
    rw [List.length_map] at hv hc
    exact ⟨_, cap, hv, hc⟩


/-- The if whose test lies in slot n. -/
def condAt (n : Nat) : Code → Option Code
  | .loop c => condAt n c
  | .seq a b => match condAt n a with
    | some c => some c
    | none => condAt n b
  | .block _ c => condAt n c
  | .scope c => condAt n c
  | .cond (.tmp t) a b => if t = n then some (.cond (.tmp t) a b) else match condAt n a with
    | some c => some c
    | none => condAt n b
  | .cond _ a b => match condAt n a with
    | some c => some c
    | none => condAt n b
  | _ => none
noncomputable def freeCond : Code := ((Try.f5.body.bind (condAt 175)).getD .skip)

set_option maxHeartbeats 16000000 in
set_option maxRecDepth 1000000 in
theorem free_block (t0 t2 t3 t4 t10 t11 t12 t13 t14 t15 t16 t17 t18 t19 t20 t21 t22 t23 t24 t25 t26 t27 t28 t29 t30 t31 t32 t33 t34 t35 t36 t37 t38 t39 t40 t41 t42 t43 t44 t45 t46 t47 t48 t49 t50 t51 t52 t53 t54 t55 t56 t57 t58 t59 t60 t61 t62 t63 t64 t65 t66 t67 t68 t69 t70 t71 t72 t73 t74 t75 t76 t77 t78 t79 t80 t81 t82 t83 t84 t85 t86 t87 t88 t89 t90 t91 t92 t93 t94 t95 t96 t97 t98 t99 t100 t101 t102 t103 t104 t105 t106 t107 t108 t109 t110 t111 t112 t113 t114 t115 t116 t117 t118 t119 t120 t121 t122 t123 t124 t125 t126 t127 t128 t129 t130 t131 t132 t133 t134 t135 t136 t137 t138 t139 t140 t141 t142 t143 t144 t145 t146 t147 t148 t149 t150 t151 t152 t153 t154 t155 t156 t157 t158 t159 t160 t161 t162 t163 t164 t165 t166 t167 t168 t169 t170 t171 t172 t173 t174 t176 t177 t178 t179 t180 t181 t182 t183 t184 t185 t186 t187 t188 t189 t190 t191 t192 t193 t194 t195 t196 t197 t198 t199 t200 t201 t202 t203 t204 t205 t206 t207 t208 t209 t210 t211 t212 t213 t214 t215 t216 t217 t218 t219 t220 t221 t222 t223 t224 t225 t226 t227 t228 t229 t230 t231 t232 t233 t234 t235 t236 t237 t238 t239 t240 t241 t242 : Value) (fb fo n1 c1 g g6 g7 g8 cp6 cp7 cp8 n i base : Nat) (a : Nat → Nat) (u : Nat → Nat → Bool) (W w : World) (z : Int) (LL : List (Nat × Nat)) (K J K0 : Act → World → Prop) (R : Ending → World → Prop)
    (hi : i < n1) (hi1 : i < 150) (hn : n = LL.length) (hn0 : 0 < LL.length) (hnn : LL.length ≤ 1000)
    (hfc' : w.cell? ⟨fb, fo + i, none⟩ = some (.int .i64 z)) (hInvR : Inv LL u)
    (hR : St W w base g a u (.slice (some ⟨g6, 0, none⟩) n cp6) (.slice (some ⟨g7, 0, none⟩) n cp7) (.slice (some ⟨g8, 0, none⟩) n cp8) (LL.map adr) (LL.map szz) (LL.map kls))
    (hK : ∀ (v6 v7 v8 d20 d176 d177 d178 d179 d180 d181 d182 d183 d184 d185 d186 d187 d188 d189 d190 d191 d192 d193 d194 d195 d196 d197 d198 d199 d200 d201 d202 d203 d204 d205 d206 d207 d208 d209 d210 d211 d212 d213 d214 d215 d216 d217 d218 d219 d220 d221 d222 d223 d224 d225 d226 d227 d228 d229 d230 d231 d232 d233 d234 d235 d236 d237 d238 d239 d240 d241 d242 : Value) (w' : World) (L' : List (Nat × Nat)) (u' : Nat → Nat → Bool), L'.length ≤ LL.length → Inv L' u' → St W w' base g a u' v6 v7 v8 (L'.map adr) (L'.map szz) (L'.map kls) → K ⟨#[t0, .slice (some ⟨fb, fo, none⟩) n1 c1, t2, t3, t4, .pointer (some ⟨g, 0, none⟩), v6, v7, v8, .int .i64 (i : Nat), t10, t11, t12, t13, t14, t15, t16, t17, t18, t19, d20, t21, t22, t23, t24, t25, t26, t27, t28, t29, t30, t31, t32, t33, t34, t35, t36, t37, t38, t39, t40, t41, t42, t43, t44, t45, t46, t47, t48, t49, t50, t51, t52, t53, t54, t55, t56, t57, t58, t59, t60, t61, t62, t63, t64, t65, t66, t67, t68, t69, t70, t71, t72, t73, t74, t75, t76, t77, t78, t79, t80, t81, t82, t83, t84, t85, t86, t87, t88, t89, t90, t91, t92, t93, t94, t95, t96, t97, t98, t99, t100, t101, t102, t103, t104, t105, t106, t107, t108, t109, t110, t111, t112, t113, t114, t115, t116, t117, t118, t119, t120, t121, t122, t123, t124, t125, t126, t127, t128, t129, t130, t131, t132, t133, t134, t135, t136, t137, t138, t139, t140, t141, t142, t143, t144, t145, t146, t147, t148, t149, t150, t151, t152, t153, t154, t155, t156, t157, t158, t159, t160, t161, t162, t163, t164, t165, t166, t167, t168, t169, t170, t171, t172, t173, t174, .bool true, d176, d177, d178, d179, d180, d181, d182, d183, d184, d185, d186, d187, d188, d189, d190, d191, d192, d193, d194, d195, d196, d197, d198, d199, d200, d201, d202, d203, d204, d205, d206, d207, d208, d209, d210, d211, d212, d213, d214, d215, d216, d217, d218, d219, d220, d221, d222, d223, d224, d225, d226, d227, d228, d229, d230, d231, d232, d233, d234, d235, d236, d237, d238, d239, d240, d241, d242], []⟩ w') :
    Code.wp Try.prog freeCond (Exit.inBlock 1 (Exit.then K (Exit.then J (Exit.inBlock 0 (Exit.then K0 (bodyPost Try.prog Try.f5 R)))))) ⟨#[t0, .slice (some ⟨fb, fo, none⟩) n1 c1, t2, t3, t4, .pointer (some ⟨g, 0, none⟩), .slice (some ⟨g6, 0, none⟩) n cp6, .slice (some ⟨g7, 0, none⟩) n cp7, .slice (some ⟨g8, 0, none⟩) n cp8, .int .i64 (i : Nat), t10, t11, t12, t13, t14, t15, t16, t17, t18, t19, t20, t21, t22, t23, t24, t25, t26, t27, t28, t29, t30, t31, t32, t33, t34, t35, t36, t37, t38, t39, t40, t41, t42, t43, t44, t45, t46, t47, t48, t49, t50, t51, t52, t53, t54, t55, t56, t57, t58, t59, t60, t61, t62, t63, t64, t65, t66, t67, t68, t69, t70, t71, t72, t73, t74, t75, t76, t77, t78, t79, t80, t81, t82, t83, t84, t85, t86, t87, t88, t89, t90, t91, t92, t93, t94, t95, t96, t97, t98, t99, t100, t101, t102, t103, t104, t105, t106, t107, t108, t109, t110, t111, t112, t113, t114, t115, t116, t117, t118, t119, t120, t121, t122, t123, t124, t125, t126, t127, t128, t129, t130, t131, t132, t133, t134, t135, t136, t137, t138, t139, t140, t141, t142, t143, t144, t145, t146, t147, t148, t149, t150, t151, t152, t153, t154, t155, t156, t157, t158, t159, t160, t161, t162, t163, t164, t165, t166, t167, t168, t169, t170, t171, t172, t173, t174, .bool true, t176, t177, t178, t179, t180, t181, t182, t183, t184, t185, t186, t187, t188, t189, t190, t191, t192, t193, t194, t195, t196, t197, t198, t199, t200, t201, t202, t203, t204, t205, t206, t207, t208, t209, t210, t211, t212, t213, t214, t215, t216, t217, t218, t219, t220, t221, t222, t223, t224, t225, t226, t227, t228, t229, t230, t231, t232, t233, t234, t235, t236, t237, t238, t239, t240, t241, t242], []⟩ w := by
  subst hn
  conv => arg 2; whnf
  have HK := Lib.hid hK
  clear hK
  obtain ⟨r, hr⟩ : ∃ r, z.tmod (LL.length : Int) = r := ⟨_, rfl⟩
  have hr0 := Int.lt_tmod_of_pos z (show (0 : Int) < (LL.length : Int) by omega)
  have hr1 := Int.tmod_lt_of_pos z (show (0 : Int) < (LL.length : Int) by omega)
  rw [hr] at hr0 hr1
  have hr2 : 0 ≤ r + (LL.length : Int) := by omega
  have ht0 := Int.emod_nonneg (r + (LL.length : Int)) (show (LL.length : Int) ≠ 0 by omega)
  have ht1 := Int.emod_lt_of_pos (r + (LL.length : Int)) (show (0 : Int) < (LL.length : Int) by omega)
  obtain ⟨T, hT⟩ : ∃ T : Nat, (r + (LL.length : Int)) % (LL.length : Int) = (T : Int) := ⟨((r + (LL.length : Int)) % (LL.length : Int)).toNat, (Int.toNat_of_nonneg ht0).symm⟩
  have hT1 : T < LL.length := by omega
  clear ht0 ht1 hr0
  have hp : LL[T]? = some LL[T] := List.getElem?_eq_getElem hT1
  obtain ⟨p, hpe⟩ : ∃ p, p = LL[T] := ⟨_, rfl⟩
  rw [← hpe] at hp
  obtain ⟨_, _, e6, hg6, hcp6, hc6⟩ := ints_cell hR.i6 hp
  cases e6
  have hpm : p ∈ LL := by rw [hpe]; exact List.getElem_mem hT1
  obtain ⟨w1', w2', w3'⟩ := hInvR.valid p hpm
  obtain ⟨y1, y2, y3, _, _, _⟩ := addr_bd p.1 p.2 w1' w2'
  unfold adr at hc6
  clear hpe hpm y3
  have HP := Lib.hid hp
  have HUP := Lib.hid w3'
  clear hp w3'
  go_wp2_with fail
  refine (free_any g a _ _ hR.heap p.1 p.2 w1' w2' HUP.out).mono ?_
  rintro e w9 ⟨rfl, hH9, hB9⟩
  have hT9 := hR.heaps hB9 hH9
  have hc9 : w9.cell? ⟨g6, T, none⟩ = some (.int .i64 ((addr p.1 p.2 : Nat) : Int)) := (World.cell?_of_block (w := _) (hB9.block g6 (cell_lt hc6) (fun k hk e => by have := (hR.ha k hk).1; omega))).trans hc6
  clear hR hc6 hB9 hH9
  go_wp2_with fail
  refine (free_none g a _ _ hT9.heap p.1 p.2 w1' w2' (by simp [upd])).mono ?_
  rintro e w10 ⟨rfl, hb10⟩
  have hT10 := hT9.bel hb10
  have hc10 := old_cell hb10 hc9
  clear hT9 hc9 hb10
  go_wp2_with fail
  refine (within_nay g a _ _ hT10.heap p.1 p.2 1 w1' w2' (by omega) (by simp [upd])).mono ?_
  rintro e w11 ⟨rfl, hb11⟩
  have hT11 := hT10.bel hb11
  clear hT10 hc10 hb11
  go_wp2
  clear hr hr1 hr2 hT
  obtain ⟨hn_, hc_, hget_⟩ := ints_all hT11.i6
  obtain ⟨A, hA, hAc_⟩ := tail_at g6 T LL.length cp6 hc_
  have HN := Lib.hid hn_
  have HGET := Lib.hid hget_
  have HAC := Lib.hid hAc_
  clear hn_ hget_ hAc_
  have t1 : T ≤ cp6 := by omega
  have t2 : T + 1 ≤ LL.length := by omega
  have t3 : T < LL.length := by omega
  have hnn' : LL.length ≤ 1000 := hnn
  have e0 : 0 ≤ (T : Int) + 1 := by omega
  have e1 : (T : Int) + 1 ≤ (LL.length : Int) := by omega
  have e2 : ((T : Int) + 1).toNat = T + 1 := by omega
  have e3 : IntKind.i64.wrap ((T : Int) + 1) = (T : Int) + 1 := by rw [IntKind.wrap_i64]; omega
  go_region_law (first
    | (refine step_app rfl (.tmp 213) (.tmp 216) rfl base _ [] ((LL.map adr).take T) rfl (ints_new _ hT11.size) _ T _ rfl (len_take HN.out t3) (take_cells (bl_drewN (bl_one _ _) 1) HGET.out) (len_small1 HN.out hnn) (Nat.le_trans hT11.size (bl_drewN (bl_one _ _) 1).size) ?_; intro v1 w1_ hA1; obtain ⟨hb1, hf1⟩ := del_first hA1)
    | (refine step_app rfl (.tmp 217) (.tmp 221) rfl base v1 _ ((LL.map adr).drop (T + 1)) rfl hA1.ints A (LL.length - (T + 1)) _ rfl (len_drop HN.out) (drop_cells hb1 HN.out HAC.out HGET.out) (len_small2 HN.out hnn) (Nat.le_trans hT11.size hb1.size) ?_; intro v2 w2_ hA2; obtain ⟨hb2, hf2⟩ := del_second hb1 hf1 hA2))
  have hU6 := hT11.fresh6 hb2 hA2.ints hf2
  clear hT11 hA1 hA2 hb1 hf1 hb2 hf2 hA HAC HGET HN e0 e1 e2 e3 t1 t2 t3 hnn' hc_
  go_wp2
  obtain ⟨hn_, hc_, hget_⟩ := ints_all hU6.i7
  obtain ⟨A, hA, hAc_⟩ := tail_at g7 T LL.length cp7 hc_
  have HN := Lib.hid hn_
  have HGET := Lib.hid hget_
  have HAC := Lib.hid hAc_
  clear hn_ hget_ hAc_
  have t1 : T ≤ cp7 := by omega
  have t2 : T + 1 ≤ LL.length := by omega
  have t3 : T < LL.length := by omega
  have hnn' : LL.length ≤ 1000 := hnn
  have e0 : 0 ≤ (T : Int) + 1 := by omega
  have e1 : (T : Int) + 1 ≤ (LL.length : Int) := by omega
  have e2 : ((T : Int) + 1).toNat = T + 1 := by omega
  have e3 : IntKind.i64.wrap ((T : Int) + 1) = (T : Int) + 1 := by rw [IntKind.wrap_i64]; omega
  go_region_law (first
    | (refine step_app rfl (.tmp 223) (.tmp 226) rfl base _ [] ((LL.map szz).take T) rfl (ints_new _ hU6.size) _ T _ rfl (len_take HN.out t3) (take_cells (bl_drewN (bl_one _ _) 1) HGET.out) (len_small1 HN.out hnn) (Nat.le_trans hU6.size (bl_drewN (bl_one _ _) 1).size) ?_; intro v1 w1_ hA1; obtain ⟨hb1, hf1⟩ := del_first hA1)
    | (refine step_app rfl (.tmp 227) (.tmp 231) rfl base v1 _ ((LL.map szz).drop (T + 1)) rfl hA1.ints A (LL.length - (T + 1)) _ rfl (len_drop HN.out) (drop_cells hb1 HN.out HAC.out HGET.out) (len_small2 HN.out hnn) (Nat.le_trans hU6.size hb1.size) ?_; intro v2 w2_ hA2; obtain ⟨hb2, hf2⟩ := del_second hb1 hf1 hA2))
  have hU7 := hU6.fresh7 hb2 hA2.ints hf2
  clear hU6 hA1 hA2 hb1 hf1 hb2 hf2 hA HAC HGET HN e0 e1 e2 e3 t1 t2 t3 hnn' hc_
  go_wp2
  obtain ⟨hn_, hc_, hget_⟩ := ints_all hU7.i8
  obtain ⟨A, hA, hAc_⟩ := tail_at g8 T LL.length cp8 hc_
  have HN := Lib.hid hn_
  have HGET := Lib.hid hget_
  have HAC := Lib.hid hAc_
  clear hn_ hget_ hAc_
  have t1 : T ≤ cp8 := by omega
  have t2 : T + 1 ≤ LL.length := by omega
  have t3 : T < LL.length := by omega
  have hnn' : LL.length ≤ 1000 := hnn
  have e0 : 0 ≤ (T : Int) + 1 := by omega
  have e1 : (T : Int) + 1 ≤ (LL.length : Int) := by omega
  have e2 : ((T : Int) + 1).toNat = T + 1 := by omega
  have e3 : IntKind.i64.wrap ((T : Int) + 1) = (T : Int) + 1 := by rw [IntKind.wrap_i64]; omega
  go_region_law (first
    | (refine step_app rfl (.tmp 233) (.tmp 236) rfl base _ [] ((LL.map kls).take T) rfl (ints_new _ hU7.size) _ T _ rfl (len_take HN.out t3) (take_cells (bl_drewN (bl_one _ _) 1) HGET.out) (len_small1 HN.out hnn) (Nat.le_trans hU7.size (bl_drewN (bl_one _ _) 1).size) ?_; intro v1 w1_ hA1; obtain ⟨hb1, hf1⟩ := del_first hA1)
    | (refine step_app rfl (.tmp 237) (.tmp 241) rfl base v1 _ ((LL.map kls).drop (T + 1)) rfl hA1.ints A (LL.length - (T + 1)) _ rfl (len_drop HN.out) (drop_cells hb1 HN.out HAC.out HGET.out) (len_small2 HN.out hnn) (Nat.le_trans hU7.size hb1.size) ?_; intro v2 w2_ hA2; obtain ⟨hb2, hf2⟩ := del_second hb1 hf1 hA2))
  have hU8 := hU7.fresh8 hb2 hA2.ints hf2
  clear hU7 hA1 hA2 hb1 hf1 hb2 hf2 hA HAC HGET HN e0 e1 e2 e3 t1 t2 t3 hnn' hc_
  go_wp2
  have hsplit : LL = LL.take T ++ (p.1, p.2) :: LL.drop (T + 1) := by
    obtain ⟨h1_, h2_⟩ := List.getElem?_eq_some_iff.1 HP.out
    have h3_ := List.take_append_drop T LL
    rw [List.drop_eq_getElem_cons h1_, h2_] at h3_
    exact h3_.symm
  have hInv2 := inv_del (A := LL.take T) (B := LL.drop (T + 1)) (k := p.1) (i := p.2) (by rw [← hsplit]; exact hInvR)
  have hlen2 : (LL.take T ++ LL.drop (T + 1)).length ≤ LL.length := by rw [List.length_append, List.length_take, List.length_drop]; omega
  simp only [List.nil_append, ← List.map_take, ← List.map_drop, ← List.map_append] at hU8
  exact HK.out _ _ _ _ _ _ _ _ _ _ _ _ _ _ _ _ _ _ _ _ _ _ _ _ _ _ _ _ _ _ _ _ _ _ _ _ _ _ _ _ _ _ _ _ _ _ _ _ _ _ _ _ _ _ _ _ _ _ _ _ _ _ _ _ _ _ _ _ _ _ _ _ _ _ hlen2 hInv2 hU8

end Go.Proofs.Ytefkaikedapokaa
