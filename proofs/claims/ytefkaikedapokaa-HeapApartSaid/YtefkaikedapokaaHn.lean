/- HeapApart: the block behind a block that was taken, as a theorem of its own. -/
import Derived.Test.YtefkaikedapokaaHm
namespace Go.Proofs.Ytefkaikedapokaa
open Go.RowKit
set_option linter.unusedSimpArgs false
set_option linter.unusedVariables false
noncomputable def okCond : Code := ((Try.f5.body.bind (condAt 96)).getD .skip)

set_option maxHeartbeats 16000000 in
set_option maxRecDepth 1000000 in
theorem ok_block (t0 t1 t2 t3 t4 t7 t8 t9 t10 t13 t14 t15 t16 t18 t19 t20 t21 t22 t23 t24 t25 t26 t27 t28 t29 t30 t31 t32 t33 t34 t35 t36 t37 t38 t39 t40 t41 t42 t43 t44 t45 t46 t47 t48 t49 t50 t51 t52 t53 t54 t55 t56 t57 t58 t59 t60 t61 t62 t63 t64 t65 t66 t67 t68 t69 t70 t71 t72 t73 t74 t75 t76 t77 t78 t79 t80 t81 t82 t83 t84 t85 t86 t87 t88 t89 t90 t91 t92 t93 t94 t95 t97 t98 t99 t100 t101 t102 t103 t104 t105 t106 t107 t108 t109 t110 t111 t112 t113 t114 t115 t116 t117 t118 t119 t120 t121 t122 t123 t124 t125 t126 t127 t128 t129 t130 t131 t132 t133 t134 t135 t136 t137 t138 t139 t140 t141 t142 t143 t144 t145 t146 t147 t148 t149 t150 t151 t152 t153 t154 t155 t156 t157 t158 t159 t160 t161 t162 t163 t164 t165 t166 t167 t168 t169 t170 t171 t172 t173 t174 t175 t176 t177 t178 t179 t180 t181 t182 t183 t184 t185 t186 t187 t188 t189 t190 t191 t192 t193 t194 t195 t196 t197 t198 t199 t200 t201 t202 t203 t204 t205 t206 t207 t208 t209 t210 t211 t212 t213 t214 t215 t216 t217 t218 t219 t220 t221 t222 t223 t224 t225 t226 t227 t228 t229 t230 t231 t232 t233 t234 t235 t236 t237 t238 t239 t240 t241 t242 : Value) (A6 : Option Addr) (g k m n cap6 base : Nat) (a : Nat → Nat) (u : Nat → Nat → Bool) (W w : World) (L : List (Nat × Nat)) (K K1 J K0 : Act → World → Prop) (R : Ending → World → Prop)
    (hn : n = L.length) (hL150 : L.length ≤ 150) (hk4 : k < 4) (hm1 : m < nb k) (hm2 : u k m = false) (hInv : Inv L u)
    (hS3 : St W w base g a (upd u k m true) (.slice A6 n cap6) t7 t8 (L.map adr) (L.map szz) (L.map kls))
    (hK : ∀ (v6 v7 v8 d4 d19 d97 d98 d99 d100 d101 d102 d103 d104 d105 d106 d107 d108 d109 d110 d111 d112 d113 d114 d115 d116 d117 d118 d119 d120 d121 d122 d123 d124 d125 d126 d127 d128 d129 d130 d131 d132 d133 d134 d135 d136 d137 d138 d139 d140 d141 d142 d143 d144 d145 d146 d147 d148 d149 d150 d151 d152 d153 d154 d155 d156 d157 d158 : Value) (w' : World), St W w' base g a (upd u k m true) v6 v7 v8 ((L ++ [(k, m)]).map adr) ((L ++ [(k, m)]).map szz) ((L ++ [(k, m)]).map kls) → K ⟨#[t0, t1, t2, t3, d4, .pointer (some ⟨g, 0, none⟩), v6, v7, v8, t9, t10, .int .i64 (k : Nat), .int .i64 (sz k : Nat), t13, t14, t15, t16, .int .i64 (addr k m : Nat), t18, d19, t20, t21, t22, t23, t24, t25, t26, t27, t28, t29, t30, t31, t32, t33, t34, t35, t36, t37, t38, t39, t40, t41, t42, t43, t44, t45, t46, t47, t48, t49, t50, t51, t52, t53, t54, t55, t56, t57, t58, t59, t60, t61, t62, t63, t64, t65, t66, t67, t68, t69, t70, t71, t72, t73, t74, t75, t76, t77, t78, t79, t80, t81, t82, t83, t84, t85, t86, t87, t88, t89, t90, t91, t92, t93, t94, t95, .bool true, d97, d98, d99, d100, d101, d102, d103, d104, d105, d106, d107, d108, d109, d110, d111, d112, d113, d114, d115, d116, d117, d118, d119, d120, d121, d122, d123, d124, d125, d126, d127, d128, d129, d130, d131, d132, d133, d134, d135, d136, d137, d138, d139, d140, d141, d142, d143, d144, d145, d146, d147, d148, d149, d150, d151, d152, d153, d154, d155, d156, d157, d158, t159, t160, t161, t162, t163, t164, t165, t166, t167, t168, t169, t170, t171, t172, t173, t174, t175, t176, t177, t178, t179, t180, t181, t182, t183, t184, t185, t186, t187, t188, t189, t190, t191, t192, t193, t194, t195, t196, t197, t198, t199, t200, t201, t202, t203, t204, t205, t206, t207, t208, t209, t210, t211, t212, t213, t214, t215, t216, t217, t218, t219, t220, t221, t222, t223, t224, t225, t226, t227, t228, t229, t230, t231, t232, t233, t234, t235, t236, t237, t238, t239, t240, t241, t242], []⟩ w') :
    Code.wp Try.prog okCond (Exit.then K (Exit.inBlock 1 (Exit.then K1 (Exit.then J (Exit.inBlock 0 (Exit.then K0 (bodyPost Try.prog Try.f5 R))))))) ⟨#[t0, t1, t2, t3, t4, .pointer (some ⟨g, 0, none⟩), .slice A6 n cap6, t7, t8, t9, t10, .int .i64 (k : Nat), .int .i64 (sz k : Nat), t13, t14, t15, t16, .int .i64 (addr k m : Nat), t18, t19, t20, t21, t22, t23, t24, t25, t26, t27, t28, t29, t30, t31, t32, t33, t34, t35, t36, t37, t38, t39, t40, t41, t42, t43, t44, t45, t46, t47, t48, t49, t50, t51, t52, t53, t54, t55, t56, t57, t58, t59, t60, t61, t62, t63, t64, t65, t66, t67, t68, t69, t70, t71, t72, t73, t74, t75, t76, t77, t78, t79, t80, t81, t82, t83, t84, t85, t86, t87, t88, t89, t90, t91, t92, t93, t94, t95, .bool true, t97, t98, t99, t100, t101, t102, t103, t104, t105, t106, t107, t108, t109, t110, t111, t112, t113, t114, t115, t116, t117, t118, t119, t120, t121, t122, t123, t124, t125, t126, t127, t128, t129, t130, t131, t132, t133, t134, t135, t136, t137, t138, t139, t140, t141, t142, t143, t144, t145, t146, t147, t148, t149, t150, t151, t152, t153, t154, t155, t156, t157, t158, t159, t160, t161, t162, t163, t164, t165, t166, t167, t168, t169, t170, t171, t172, t173, t174, t175, t176, t177, t178, t179, t180, t181, t182, t183, t184, t185, t186, t187, t188, t189, t190, t191, t192, t193, t194, t195, t196, t197, t198, t199, t200, t201, t202, t203, t204, t205, t206, t207, t208, t209, t210, t211, t212, t213, t214, t215, t216, t217, t218, t219, t220, t221, t222, t223, t224, t225, t226, t227, t228, t229, t230, t231, t232, t233, t234, t235, t236, t237, t238, t239, t240, t241, t242], []⟩ w := by
  subst hn
  have HK := Lib.hid hK
  have HM2 := Lib.hid hm2
  clear hK hm2
  have hap : ∀ p ∈ L, addr k m + 4 * sz k ≤ addr p.1 p.2 ∨ addr p.1 p.2 + 4 * sz p.1 ≤ addr k m := fun p hp => by
    obtain ⟨v1, v2, v3⟩ := hInv.valid p hp
    exact block_apart k m p.1 p.2 hk4 hm1 v1 v2 (fun e => by rw [← e.1, ← e.2, HM2.out] at v3; cases v3)
  have HAP := Lib.hid hap
  have hsp : ∀ p ∈ L, addr p.1 p.2 + 4 * sz p.1 ≤ 273408 ∧ sz p.1 ≤ 128 := fun p hp => by
    obtain ⟨v1, v2, v3⟩ := hInv.valid p hp
    have := addr_bd p.1 p.2 v1 v2
    omega
  have HSP := Lib.hid hsp
  obtain ⟨x1, x2, x3, hs1, hs128, _⟩ := addr_bd k m hk4 hm1
  have x4 : (((addr k m : Nat) : Int) % 4 != 0) = false := by rw [bne_eq_false_iff_eq]; omega
  have x5 : (((addr k m : Nat) : Int) % 4 == 0) = true := by rw [beq_iff_eq]; omega
  clear hInv hap hsp x3
  conv => arg 2; whnf
  go_wp2_with fail
  refine (within_yes g a _ _ hS3.heap k m (sz k : Nat) hk4 hm1 (by omega) (Int.le_refl _) (by simp [upd])).mono ?_
  rintro e w4 ⟨rfl, hb4⟩
  have hS4 := hS3.bel hb4
  clear hS3 hb4
  go_wp2
  go_loopw [19] (fun vj wz => ∃ j : Nat, j ≤ L.length ∧ vj = .int .i64 j ∧ St W wz base g a (upd u k m true) (.slice A6 L.length cap6) t7 t8 (L.map adr) (L.map szz) (L.map kls)) (fun vj _ => L.length - (intOf vj).toNat)
  case atStart => exact ⟨0, Nat.zero_le _, rfl, hS4⟩
  case round =>
    obtain ⟨j, hj, rfl, hS5⟩ := hrel
    clear hS4
    by_cases hjl : j < L.length
    · have hp : L[j]? = some L[j] := List.getElem?_eq_getElem hjl
      obtain ⟨p, hpe⟩ : ∃ p, p = L[j] := ⟨_, rfl⟩
      have hpm : p ∈ L := by rw [hpe]; exact List.getElem_mem hjl
      rw [← hpe] at hp
      obtain ⟨g6, cap6', e6, _, _, hc6⟩ := ints_cell hS5.i6 hp
      cases e6
      obtain ⟨g7, cap7, rfl, _, hcap7, hc7⟩ := ints_cell hS5.i7 hp
      have ha1 := HAP.out p hpm
      obtain ⟨hs1', hs2'⟩ := HSP.out p hpm
      unfold adr at hc6
      unfold szz at hc7
      clear hp hpe hpm
      by_cases c1 : addr k m < addr p.1 p.2 + 4 * sz p.1
      · have c2 : ¬ addr p.1 p.2 < addr k m + 4 * sz k := by omega
        have d1 : decide (((addr k m : Nat) : Int) < ((addr p.1 p.2 : Nat) : Int) + 4 * ((sz p.1 : Nat) : Int)) = true := decide_eq_true (by omega)
        have d2 : decide (((addr p.1 p.2 : Nat) : Int) < ((addr k m : Nat) : Int) + 4 * ((sz k : Nat) : Int)) = false := decide_eq_false (by omega)
        clear ha1 c1 c2
        go_wp2
        go_quiet (fail)
        go_wp2
        go_roundw
        case rel => exact ⟨j + 1, by omega, by go_num, hS5.bel (bl_drewN (Below.refl _ _) _)⟩
        case measure => simp [intOf]; omega
      · have d1 : decide (((addr k m : Nat) : Int) < ((addr p.1 p.2 : Nat) : Int) + 4 * ((sz p.1 : Nat) : Int)) = false := decide_eq_false (by omega)
        clear ha1 c1
        go_wp2
        go_quiet (fail)
        go_wp2
        go_roundw
        case rel => exact ⟨j + 1, by omega, by go_num, hS5.bel (bl_drewN (Below.refl _ _) _)⟩
        case measure => simp [intOf]; omega
    · obtain rfl : j = L.length := by omega
      go_wp2_with (first
        | (at_builtin; refine app_two rfl (.tmp 147) (.tmp 149) rfl base _ _ rfl hS5.i6 _ (by rw [List.length_map]; omega) hS5.size rfl ?_; intro v6 w6 hA6; have hS6 := (hS5.bel (bl_one _ _)).app6 hA6; clear hS5 hA6)
        | (at_builtin; refine app_two rfl (.tmp 151) (.tmp 153) rfl base _ _ rfl hS6.i7 _ (by rw [List.length_map]; omega) hS6.size rfl ?_; intro v7 w7 hA7; have hS7 := (hS6.bel (bl_one _ _)).app7 hA7; clear hS6 hA7)
        | (at_builtin; refine app_two rfl (.tmp 155) (.tmp 157) rfl base _ _ rfl hS7.i8 _ (by rw [List.length_map]; omega) hS7.size rfl ?_; intro v8 w8 hA8; have hR0 := (hS7.bel (bl_one _ _)).app8 hA8; clear hS7 hA8))
      have hR1 : St W w8 base g a (upd u k m true) v6 v7 v8 ((L ++ [(k, m)]).map adr) ((L ++ [(k, m)]).map szz) ((L ++ [(k, m)]).map kls) := by
        rw [List.map_append, List.map_append, List.map_append]; exact hR0
      exact HK.out _ _ _ _ _ _ _ _ _ _ _ _ _ _ _ _ _ _ _ _ _ _ _ _ _ _ _ _ _ _ _ _ _ _ _ _ _ _ _ _ _ _ _ _ _ _ _ _ _ _ _ _ _ _ _ _ _ _ _ _ _ _ _ _ _ _ _ _ hR1
end Go.Proofs.Ytefkaikedapokaa
