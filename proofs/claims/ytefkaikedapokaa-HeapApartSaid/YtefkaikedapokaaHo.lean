/- HeapApart: a round's way from Alloc on, as theorems of their own. -/
import Derived.Test.YtefkaikedapokaaHn
namespace Go.Proofs.Ytefkaikedapokaa
open Go.RowKit
set_option linter.unusedSimpArgs false
set_option linter.unusedVariables false
/-- From region n on, to the end of its block. -/
def seqAt (n : Nat) : Code → Option Code
  | .loop c => seqAt n c
  | .seq (.region m o d) b => if m = n then some (.seq (.region m o d) b) else seqAt n b
  | .seq a b => match seqAt n a with
    | some c => some c
    | none => seqAt n b
  | .block _ c => seqAt n c
  | .scope c => seqAt n c
  | .cond _ a b => match seqAt n a with
    | some c => some c
    | none => seqAt n b
  | _ => none
/-- What a walk owes that stands at the first part of a sequence. -/
def HeadWp (P : Program) (c : Code) (Q : Exit → Act → World → Prop) (a : Act) (w : World) : Prop :=
  match c with
  | .seq x y => ∀ K : Act → World → Prop, (∀ a w, y.wp P Q a w → K a w) → x.wp P (Exit.then K Q) a w
  | _ => False
theorem seq_to {P : Program} {A B : Code} {K : Act → World → Prop} {Q : Exit → Act → World → Prop} {a : Act} {w : World} (h : HeadWp P (A.seq B) Q a w) (hK : ∀ a w, B.wp P Q a w → K a w) : A.wp P (Exit.then K Q) a w := h K hK
noncomputable def seq18 : Code := ((Try.f5.body.bind (seqAt 18)).getD .skip)

set_option maxHeartbeats 16000000 in
set_option maxRecDepth 1000000 in
theorem full_round (t0 t2 t3 t4 t7 t8 t14 t16 t17 t18 t19 t20 t21 t22 t23 t24 t25 t26 t27 t28 t29 t30 t31 t32 t33 t34 t35 t36 t37 t38 t39 t40 t41 t42 t43 t44 t45 t46 t47 t48 t49 t50 t51 t52 t53 t54 t55 t56 t57 t58 t59 t60 t61 t62 t63 t64 t65 t66 t67 t68 t69 t70 t71 t72 t73 t74 t75 t76 t77 t78 t79 t80 t81 t82 t83 t84 t85 t86 t87 t88 t89 t90 t91 t92 t93 t94 t95 t96 t97 t98 t99 t100 t101 t102 t103 t104 t105 t106 t107 t108 t109 t110 t111 t112 t113 t114 t115 t116 t117 t118 t119 t120 t121 t122 t123 t124 t125 t126 t127 t128 t129 t130 t131 t132 t133 t134 t135 t136 t137 t138 t139 t140 t141 t142 t143 t144 t145 t146 t147 t148 t149 t150 t151 t152 t153 t154 t155 t156 t157 t158 t159 t160 t161 t162 t163 t164 t165 t166 t167 t168 t169 t170 t171 t172 t173 t174 t175 t176 t177 t178 t179 t180 t181 t182 t183 t184 t185 t186 t187 t188 t189 t190 t191 t192 t193 t194 t195 t196 t197 t198 t199 t200 t201 t202 t203 t204 t205 t206 t207 t208 t209 t210 t211 t212 t213 t214 t215 t216 t217 t218 t219 t220 t221 t222 t223 t224 t225 t226 t227 t228 t229 t230 t231 t232 t233 t234 t235 t236 t237 t238 t239 t240 t241 t242 : Value) (A1 A6 : Option Addr) (n1 c1 g k q n cap6 base i : Nat) (y : Int) (z1 : Nat → Int) (a : Nat → Nat) (u : Nat → Nat → Bool) (W w : World) (L : List (Nat × Nat)) (K J K0 : Act → World → Prop) (R : Ending → World → Prop)
    (HZ1 : Hid (∀ i, i < n1 → ∃ b off, A1 = some ⟨b, off, none⟩ ∧ W.cell? ⟨b, off + i, none⟩ = some (.int .i64 (z1 i))))
    (hn : n = L.length) (hL : L.length ≤ i) (hlt1 : i < 150) (hk4 : k < 4) (hy0 : 0 ≤ y) (hy1 : y ≤ 127) (hs128 : sz k ≤ 128) (hs1 : 1 ≤ sz k) (hn64 : nb k ≤ 64) (HK : Hid (k = cl y)) (HQ : Hid (q = cnt (u k) (nb k))) (hqn : q ≤ nb k) (hInv : Inv L u) (hfull : cnt (u k) (nb k) = nb k)
    (hS2 : St W w base g a u (.slice A6 n cap6) t7 t8 (L.map adr) (L.map szz) (L.map kls))
    (hKK : ∀ (v6 v7 v8 d4 d17 d18 d19 d20 d67 d68 d69 d70 d71 d72 d73 d74 d75 d76 d77 d78 d79 d80 d81 d82 d83 d84 d85 d86 d87 d88 d89 d90 d91 d92 d93 d94 d95 d96 d97 d98 d99 d100 d101 d102 d103 d104 d105 d106 d107 d108 d109 d110 d111 d112 d113 d114 d115 d116 d117 d118 d119 d120 d121 d122 d123 d124 d125 d126 d127 d128 d129 d130 d131 d132 d133 d134 d135 d136 d137 d138 d139 d140 d141 d142 d143 d144 d145 d146 d147 d148 d149 d150 d151 d152 d153 d154 d155 d156 d157 d158 d159 d160 d161 d162 d163 d164 d165 d166 d167 d168 d169 d170 d171 d172 d173 d174 d175 d176 d177 d178 d179 d180 d181 d182 d183 d184 d185 d186 d187 d188 d189 d190 d191 d192 d193 d194 d195 d196 d197 d198 d199 d200 d201 d202 d203 d204 d205 d206 d207 d208 d209 d210 d211 d212 d213 d214 d215 d216 d217 d218 d219 d220 d221 d222 d223 d224 d225 d226 d227 d228 d229 d230 d231 d232 d233 d234 d235 d236 d237 d238 d239 d240 d241 d242 : Value) (w' : World) (L' : List (Nat × Nat)) (u' : Nat → Nat → Bool), L'.length ≤ i + 1 → Inv L' u' → St W w' base g a u' v6 v7 v8 (L'.map adr) (L'.map szz) (L'.map kls) → K ⟨#[t0, .slice A1 n1 c1, t2, t3, d4, .pointer (some ⟨g, 0, none⟩), v6, v7, v8, .int .i64 (i : Nat), .int .i64 y, .int .i64 (k : Nat), .int .i64 (sz k : Nat), .int .i64 (nb k : Nat), t14, .int .i64 (q : Nat), t16, d17, d18, d19, d20, t21, t22, t23, t24, t25, t26, t27, t28, t29, t30, t31, t32, t33, t34, t35, t36, t37, t38, t39, t40, t41, t42, t43, t44, t45, t46, t47, t48, t49, t50, t51, t52, t53, t54, t55, t56, t57, t58, t59, t60, t61, t62, t63, t64, t65, t66, d67, d68, d69, d70, d71, d72, d73, d74, d75, d76, d77, d78, d79, d80, d81, d82, d83, d84, d85, d86, d87, d88, d89, d90, d91, d92, d93, d94, d95, d96, d97, d98, d99, d100, d101, d102, d103, d104, d105, d106, d107, d108, d109, d110, d111, d112, d113, d114, d115, d116, d117, d118, d119, d120, d121, d122, d123, d124, d125, d126, d127, d128, d129, d130, d131, d132, d133, d134, d135, d136, d137, d138, d139, d140, d141, d142, d143, d144, d145, d146, d147, d148, d149, d150, d151, d152, d153, d154, d155, d156, d157, d158, d159, d160, d161, d162, d163, d164, d165, d166, d167, d168, d169, d170, d171, d172, d173, d174, d175, d176, d177, d178, d179, d180, d181, d182, d183, d184, d185, d186, d187, d188, d189, d190, d191, d192, d193, d194, d195, d196, d197, d198, d199, d200, d201, d202, d203, d204, d205, d206, d207, d208, d209, d210, d211, d212, d213, d214, d215, d216, d217, d218, d219, d220, d221, d222, d223, d224, d225, d226, d227, d228, d229, d230, d231, d232, d233, d234, d235, d236, d237, d238, d239, d240, d241, d242], []⟩ w') :
    HeadWp Try.prog seq18 (Exit.inBlock 1 (Exit.then K (Exit.then J (Exit.inBlock 0 (Exit.then K0 (bodyPost Try.prog Try.f5 R)))))) ⟨#[t0, .slice A1 n1 c1, t2, t3, t4, .pointer (some ⟨g, 0, none⟩), .slice A6 n cap6, t7, t8, .int .i64 (i : Nat), .int .i64 y, .int .i64 (k : Nat), .int .i64 (sz k : Nat), .int .i64 (nb k : Nat), t14, .int .i64 (q : Nat), t16, t17, t18, t19, t20, t21, t22, t23, t24, t25, t26, t27, t28, t29, t30, t31, t32, t33, t34, t35, t36, t37, t38, t39, t40, t41, t42, t43, t44, t45, t46, t47, t48, t49, t50, t51, t52, t53, t54, t55, t56, t57, t58, t59, t60, t61, t62, t63, t64, t65, t66, t67, t68, t69, t70, t71, t72, t73, t74, t75, t76, t77, t78, t79, t80, t81, t82, t83, t84, t85, t86, t87, t88, t89, t90, t91, t92, t93, t94, t95, t96, t97, t98, t99, t100, t101, t102, t103, t104, t105, t106, t107, t108, t109, t110, t111, t112, t113, t114, t115, t116, t117, t118, t119, t120, t121, t122, t123, t124, t125, t126, t127, t128, t129, t130, t131, t132, t133, t134, t135, t136, t137, t138, t139, t140, t141, t142, t143, t144, t145, t146, t147, t148, t149, t150, t151, t152, t153, t154, t155, t156, t157, t158, t159, t160, t161, t162, t163, t164, t165, t166, t167, t168, t169, t170, t171, t172, t173, t174, t175, t176, t177, t178, t179, t180, t181, t182, t183, t184, t185, t186, t187, t188, t189, t190, t191, t192, t193, t194, t195, t196, t197, t198, t199, t200, t201, t202, t203, t204, t205, t206, t207, t208, t209, t210, t211, t212, t213, t214, t215, t216, t217, t218, t219, t220, t221, t222, t223, t224, t225, t226, t227, t228, t229, t230, t231, t232, t233, t234, t235, t236, t237, t238, t239, t240, t241, t242], []⟩ w := by
  subst hn
  have HKK := Lib.hid hKK
  clear hKK
  conv => arg 2; whnf
  unfold HeadWp
  dsimp only
  intro KS hKS
  have hqf : q = nb k := HQ.out.trans hfull
  have b1 : ((q : Int) == ((nb k : Nat) : Int)) = true := beq_iff_eq.2 (by omega)
  have HF := Lib.hid hqf
  clear hqf
  go_wp2_with fail
  refine (alloc_none g a u _ hS2.heap y hy0 (by omega) (by rw [← HK.out]; exact cnt_all hfull)).mono ?_
  rintro e w3 ⟨rfl, hb3⟩
  have hS3 := hS2.bel hb3
  clear hS2 hb3
  go_wp2_with fail
  refine (live_any g a u _ hS3.heap k hk4 q (by rw [HQ.out])).mono ?_
  rintro e w' ⟨rfl, rfl⟩
  go_upto_region 30 with fail
  have hR := hS3
  have hLL : L.length ≤ i + 1 := by omega
  have hInvR := hInv
  clear hS3 hInv
  obtain ⟨B6, cp6, e6, hcp6⟩ := ints_len hR.i6
  cases e6
  clear hcp6
  by_cases f1 : i < n1
  · obtain ⟨fb, fo, rfl, hfc⟩ := HZ1.out i f1
    have hfc' := (hR.below.cell (p := ⟨fb, fo + i, none⟩) (cell_lt hfc)).trans hfc
    obtain ⟨b3, hb3⟩ : ∃ b3, bits .and .i64 (z1 i) 3 = b3 := ⟨_, rfl⟩
    clear hfc
    by_cases f2 : b3 = 0
    · have f2b : (b3 == 0) = true := beq_iff_eq.2 f2
      by_cases f3 : L.length = 0
      · have f3b : decide (0 < L.length) = false := decide_eq_false (by omega)
        clear f2 f3
        go_wp2
        exact HKK.out _ _ _ _ _ _ _ _ _ _ _ _ _ _ _ _ _ _ _ _ _ _ _ _ _ _ _ _ _ _ _ _ _ _ _ _ _ _ _ _ _ _ _ _ _ _ _ _ _ _ _ _ _ _ _ _ _ _ _ _ _ _ _ _ _ _ _ _ _ _ _ _ _ _ _ _ _ _ _ _ _ _ _ _ _ _ _ _ _ _ _ _ _ _ _ _ _ _ _ _ _ _ _ _ _ _ _ _ _ _ _ _ _ _ _ _ _ _ _ _ _ _ _ _ _ _ _ _ _ _ _ _ _ _ _ _ _ _ _ _ _ _ _ _ _ _ _ _ _ _ _ _ _ _ _ _ _ _ _ _ _ _ _ _ _ _ _ _ _ _ _ _ _ _ _ _ _ _ _ _ _ _ _ _ _ _ _ hLL hInvR hR
      · have f3b : decide (0 < L.length) = true := decide_eq_true (by omega)
        have f3c : 0 < L.length := by omega
        have hp0 : L[0]? = some (L[0]'f3c) := List.getElem?_eq_getElem f3c
        obtain ⟨g6, _, e6, _, _, _⟩ := ints_cell hR.i6 hp0
        cases e6
        obtain ⟨g7, cp7, e7, _, _, _⟩ := ints_cell hR.i7 hp0
        obtain ⟨g8, cp8, e8, _, _, _⟩ := ints_cell hR.i8 hp0
        subst e7 e8
        clear f2 f3 hp0
        go_upto_if 175 with fail
        refine free_block _ _ _ _ _ _ _ _ _ _ _ _ _ _ _ _ _ _ _ _ _ _ _ _ _ _ _ _ _ _ _ _ _ _ _ _ _ _ _ _ _ _ _ _ _ _ _ _ _ _ _ _ _ _ _ _ _ _ _ _ _ _ _ _ _ _ _ _ _ _ _ _ _ _ _ _ _ _ _ _ _ _ _ _ _ _ _ _ _ _ _ _ _ _ _ _ _ _ _ _ _ _ _ _ _ _ _ _ _ _ _ _ _ _ _ _ _ _ _ _ _ _ _ _ _ _ _ _ _ _ _ _ _ _ _ _ _ _ _ _ _ _ _ _ _ _ _ _ _ _ _ _ _ _ _ _ _ _ _ _ _ _ _ _ _ _ _ _ _ _ _ _ _ _ _ _ _ _ _ _ _ _ _ _ _ _ _ _ _ _ _ _ _ _ _ _ _ _ _ _ _ _ _ _ _ _ _ _ _ _ _ _ _ _ _ _ _ _ _ _ _ _ _ _ _ _ _ _ _ _ _ _ _ _ _ _ fb fo n1 c1 g g6 g7 g8 _ cp7 cp8 L.length i base a _ W _ (z1 i) L _ _ _ _ f1 hlt1 rfl f3c (by omega) hfc' hInvR hR ?_
        intro v6 v7 v8 d20 d176 d177 d178 d179 d180 d181 d182 d183 d184 d185 d186 d187 d188 d189 d190 d191 d192 d193 d194 d195 d196 d197 d198 d199 d200 d201 d202 d203 d204 d205 d206 d207 d208 d209 d210 d211 d212 d213 d214 d215 d216 d217 d218 d219 d220 d221 d222 d223 d224 d225 d226 d227 d228 d229 d230 d231 d232 d233 d234 d235 d236 d237 d238 d239 d240 d241 d242 wF LF uF hlF hIF hSF
        clear hR hInvR hfc' f2b f3b
        exact HKK.out _ _ _ _ _ _ _ _ _ _ _ _ _ _ _ _ _ _ _ _ _ _ _ _ _ _ _ _ _ _ _ _ _ _ _ _ _ _ _ _ _ _ _ _ _ _ _ _ _ _ _ _ _ _ _ _ _ _ _ _ _ _ _ _ _ _ _ _ _ _ _ _ _ _ _ _ _ _ _ _ _ _ _ _ _ _ _ _ _ _ _ _ _ _ _ _ _ _ _ _ _ _ _ _ _ _ _ _ _ _ _ _ _ _ _ _ _ _ _ _ _ _ _ _ _ _ _ _ _ _ _ _ _ _ _ _ _ _ _ _ _ _ _ _ _ _ _ _ _ _ _ _ _ _ _ _ _ _ _ _ _ _ _ _ _ _ _ _ _ _ _ _ _ _ _ _ _ _ _ _ _ _ _ _ _ _ _ (by omega) hIF hSF
    · have f2b : (b3 == 0) = false := beq_eq_false_iff_ne.2 f2
      clear f2
      go_wp2
      exact HKK.out _ _ _ _ _ _ _ _ _ _ _ _ _ _ _ _ _ _ _ _ _ _ _ _ _ _ _ _ _ _ _ _ _ _ _ _ _ _ _ _ _ _ _ _ _ _ _ _ _ _ _ _ _ _ _ _ _ _ _ _ _ _ _ _ _ _ _ _ _ _ _ _ _ _ _ _ _ _ _ _ _ _ _ _ _ _ _ _ _ _ _ _ _ _ _ _ _ _ _ _ _ _ _ _ _ _ _ _ _ _ _ _ _ _ _ _ _ _ _ _ _ _ _ _ _ _ _ _ _ _ _ _ _ _ _ _ _ _ _ _ _ _ _ _ _ _ _ _ _ _ _ _ _ _ _ _ _ _ _ _ _ _ _ _ _ _ _ _ _ _ _ _ _ _ _ _ _ _ _ _ _ _ _ _ _ _ _ hLL hInvR hR
  · go_wp2
    exact HKK.out _ _ _ _ _ _ _ _ _ _ _ _ _ _ _ _ _ _ _ _ _ _ _ _ _ _ _ _ _ _ _ _ _ _ _ _ _ _ _ _ _ _ _ _ _ _ _ _ _ _ _ _ _ _ _ _ _ _ _ _ _ _ _ _ _ _ _ _ _ _ _ _ _ _ _ _ _ _ _ _ _ _ _ _ _ _ _ _ _ _ _ _ _ _ _ _ _ _ _ _ _ _ _ _ _ _ _ _ _ _ _ _ _ _ _ _ _ _ _ _ _ _ _ _ _ _ _ _ _ _ _ _ _ _ _ _ _ _ _ _ _ _ _ _ _ _ _ _ _ _ _ _ _ _ _ _ _ _ _ _ _ _ _ _ _ _ _ _ _ _ _ _ _ _ _ _ _ _ _ _ _ _ _ _ _ _ _ hLL hInvR hR

end Go.Proofs.Ytefkaikedapokaa
