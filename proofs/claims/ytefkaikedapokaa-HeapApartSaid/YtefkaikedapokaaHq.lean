/- The law HeapApart: its walk. -/
import Derived.Test.YtefkaikedapokaaHp
import Derived.Deep.CutBlock
import Derived.Deep.DeepCutAuto
import Derived.BigQuiet
namespace Go.Proofs.Ytefkaikedapokaa
open Go.RowKit
set_option linter.unusedSimpArgs false
set_option linter.unusedVariables false

set_option maxHeartbeats 16000000 in
set_option maxRecDepth 100000 in
theorem apart_any (A0 A1 : Option Addr) (n0 c0 n1 c1 : Nat) (z0 z1 : Nat → Int) (w : World)
    (hz0 : ∀ i, i < n0 → ∃ b off, A0 = some ⟨b, off, none⟩ ∧ w.cell? ⟨b, off + i, none⟩ = some (.int .i64 (z0 i)))
    (hz1 : ∀ i, i < n1 → ∃ b off, A1 = some ⟨b, off, none⟩ ∧ w.cell? ⟨b, off + i, none⟩ = some (.int .i64 (z1 i))) :
    Calls Try.prog 5 #[.slice A0 n0 c0, .slice A1 n1 c1] w fun e w' => e = .returned (.bool true) ∧ Below w.heap.size w w' := by
  have HZ0 := Lib.hid hz0
  have HZ1 := Lib.hid hz1
  clear hz0 hz1
  go_enter Try.func5, Try.ntmps5
  go_wp2_with fail
  refine (new_any _).mono ?_
  rintro e w1 ⟨g, a, rfl, hb1, hg1, ha1, hH1⟩
  have hS1 : ∃ base, St w w1 base g a (firsts 0 0) (.slice none 0 0) (.slice none 0 0) (.slice none 0 0) (([] : List (Nat × Nat)).map adr) (([] : List (Nat × Nat)).map szz) (([] : List (Nat × Nat)).map kls) :=
    ⟨w1.heap.size, by rw [firsts_zero]; exact hH1, ints_nil _ _, ints_nil _ _, ints_nil _ _, diff_nil _, diff_nil _, diff_nil _, hb1, Nat.le_refl _, hb1.size, hH1.lt_g, fun k hk => ⟨hH1.lt_a k hk, ha1 k hk⟩⟩
  obtain ⟨base, hS⟩ := hS1
  clear hb1 hg1 ha1 hH1
  go_wp2
  go_loopw [6, 7, 8, 9] (fun v6 v7 v8 vi wr => ∃ (i : Nat) (L : List (Nat × Nat)) (u : Nat → Nat → Bool), i ≤ n0 ∧ i ≤ 150 ∧ vi = .int .i64 i ∧ L.length ≤ i ∧ Inv L u ∧ St w wr base g a u v6 v7 v8 (L.map adr) (L.map szz) (L.map kls)) (fun _ _ _ vi _ => 150 - (intOf vi).toNat)
  case atStart => exact ⟨0, [], _, Nat.zero_le _, Nat.zero_le _, rfl, Nat.le_refl _, inv_nil, hS⟩
  case round =>
    obtain ⟨i, L, u, hi, hi1, rfl, hL, hInv, hSt⟩ := hrel
    clear hS
    by_cases hlt : i < n0
    · by_cases hlt1 : i < 150
      · obtain ⟨zb, zo, rfl, hzc⟩ := HZ0.out i hlt
        have hzc' := (hSt.below.cell (p := ⟨zb, zo + i, none⟩) (cell_lt hzc)).trans hzc
        clear hzc
        obtain ⟨y, hy⟩ : ∃ y, bits .and .i64 (z0 i) 127 = y := ⟨_, rfl⟩
        have hy0 : 0 ≤ y ∧ y ≤ 127 := hy ▸ and127 (z0 i)
        obtain ⟨hy0, hy1⟩ := hy0
        go_wp2_with fail
        refine (class_any y hy0 (by omega) _).mono ?_
        rintro e w2 ⟨rfl, hb2⟩
        have hS2 := hSt.bel hb2
        clear hSt hb2 hzc'
        have hk4 := cl_lt y
        have hysz := cl_sz (n := y) (by omega)
        obtain ⟨k, hk⟩ : ∃ k, k = cl y := ⟨_, rfl⟩
        rw [← hk] at hk4 hysz ⊢
        have HK := Lib.hid hk
        clear hk
        have hs128 : sz k ≤ 128 ∧ 1 ≤ sz k ∧ nb k ≤ 64 := by have := addr_bd k 0 hk4 (nb_pos k); omega
        obtain ⟨hs128, hs1, hn64⟩ := hs128
        have hyk : decide ((sz k : Int) < y) = false := by simp; omega
        go_wp2
        go_loop [15, 16] (fun vc vj => ∃ j : Nat, j ≤ L.length ∧ vj = .int .i64 j ∧ vc = .int .i64 (howMany k (L.take j) : Nat)) (fun _ vj => L.length - (intOf vj).toNat)
        case atStart => exact ⟨0, Nat.zero_le _, rfl, rfl⟩
        case round =>
          obtain ⟨j, hj, rfl, rfl⟩ := hrel
          have hm := howMany_le k (L.take j)
          rw [List.length_take] at hm
          by_cases hjl : j < L.length
          · have hp : L[j]? = some L[j] := List.getElem?_eq_getElem hjl
            obtain ⟨g6, cap6, rfl, _, _, _⟩ := ints_cell hS2.i6 hp
            obtain ⟨g8, cap8, rfl, _, _, hc8⟩ := ints_cell hS2.i8 hp
            by_cases e : (L[j]).1 = k
            · have HY := Lib.hid (howMany_yes hp e)
              have e1 : (kls L[j] == (k : Int)) = true := beq_iff_eq.2 (by unfold kls; omega)
              clear hp e
              go_wp2
              go_round
              case rel => exact ⟨j + 1, by omega, by go_num, by rw [HY.out]; go_num⟩
              case measure => simp [intOf]; omega
            · have HY := Lib.hid (howMany_no hp e)
              have e1 : (kls L[j] == (k : Int)) = false := beq_eq_false_iff_ne.2 (by unfold kls; omega)
              clear hp e
              go_wp2
              go_round
              case rel => exact ⟨j + 1, by omega, by go_num, by rw [HY.out]⟩
              case measure => simp [intOf]; omega
          · obtain rfl : j = L.length := by omega
            obtain ⟨q, hq⟩ : ∃ q, q = howMany k L := ⟨_, rfl⟩
            rw [List.take_length, ← hq]
            have HQ := Lib.hid (hq.trans (hInv.count k hk4).symm)
            clear hq
            obtain ⟨A6, cap6, rfl, hcap6⟩ := ints_len hS2.i6
            have hqn : q ≤ nb k := by rw [HQ.out]; exact cnt_le _ _
            go_upto_region 18 with fail
            by_cases hfull : cnt (u k) (nb k) = nb k
            · refine seq_to (full_round _ _ _ _ _ _ _ _ _ _ _ _ _ _ _ _ _ _ _ _ _ _ _ _ _ _ _ _ _ _ _ _ _ _ _ _ _ _ _ _ _ _ _ _ _ _ _ _ _ _ _ _ _ _ _ _ _ _ _ _ _ _ _ _ _ _ _ _ _ _ _ _ _ _ _ _ _ _ _ _ _ _ _ _ _ _ _ _ _ _ _ _ _ _ _ _ _ _ _ _ _ _ _ _ _ _ _ _ _ _ _ _ _ _ _ _ _ _ _ _ _ _ _ _ _ _ _ _ _ _ _ _ _ _ _ _ _ _ _ _ _ _ _ _ _ _ _ _ _ _ _ _ _ _ _ _ _ _ _ _ _ _ _ _ _ _ _ _ _ _ _ _ _ _ _ _ _ _ _ _ _ _ _ _ _ _ _ _ _ _ _ _ _ _ _ _ _ _ _ _ _ _ _ _ _ _ _ _ _ _ _ _ _ _ _ _ _ _ _ _ _ _ _ _ _ _ _ _ _ _ _ _ _ _ A1 A6 n1 c1 g k q L.length cap6 base i y z1 a u w _ L _ _ _ _ HZ1 rfl hL hlt1 hk4 hy0 hy1 hs128 hs1 hn64 HK HQ hqn hInv hfull hS2 ?_) (by assumption)
              intro v6 v7 v8 d4 d17 d18 d19 d20 d67 d68 d69 d70 d71 d72 d73 d74 d75 d76 d77 d78 d79 d80 d81 d82 d83 d84 d85 d86 d87 d88 d89 d90 d91 d92 d93 d94 d95 d96 d97 d98 d99 d100 d101 d102 d103 d104 d105 d106 d107 d108 d109 d110 d111 d112 d113 d114 d115 d116 d117 d118 d119 d120 d121 d122 d123 d124 d125 d126 d127 d128 d129 d130 d131 d132 d133 d134 d135 d136 d137 d138 d139 d140 d141 d142 d143 d144 d145 d146 d147 d148 d149 d150 d151 d152 d153 d154 d155 d156 d157 d158 d159 d160 d161 d162 d163 d164 d165 d166 d167 d168 d169 d170 d171 d172 d173 d174 d175 d176 d177 d178 d179 d180 d181 d182 d183 d184 d185 d186 d187 d188 d189 d190 d191 d192 d193 d194 d195 d196 d197 d198 d199 d200 d201 d202 d203 d204 d205 d206 d207 d208 d209 d210 d211 d212 d213 d214 d215 d216 d217 d218 d219 d220 d221 d222 d223 d224 d225 d226 d227 d228 d229 d230 d231 d232 d233 d234 d235 d236 d237 d238 d239 d240 d241 d242 wF LF uF hlF hIF hSF
              clear hS2 hInv HQ hqn
              go_wp2
              go_roundw
              case rel => exact ⟨i + 1, LF, uF, by omega, by omega, by go_num, hlF, hIF, hSF⟩
              case measure => simp [intOf]; omega
            · refine seq_to (found_round _ _ _ _ _ _ _ _ _ _ _ _ _ _ _ _ _ _ _ _ _ _ _ _ _ _ _ _ _ _ _ _ _ _ _ _ _ _ _ _ _ _ _ _ _ _ _ _ _ _ _ _ _ _ _ _ _ _ _ _ _ _ _ _ _ _ _ _ _ _ _ _ _ _ _ _ _ _ _ _ _ _ _ _ _ _ _ _ _ _ _ _ _ _ _ _ _ _ _ _ _ _ _ _ _ _ _ _ _ _ _ _ _ _ _ _ _ _ _ _ _ _ _ _ _ _ _ _ _ _ _ _ _ _ _ _ _ _ _ _ _ _ _ _ _ _ _ _ _ _ _ _ _ _ _ _ _ _ _ _ _ _ _ _ _ _ _ _ _ _ _ _ _ _ _ _ _ _ _ _ _ _ _ _ _ _ _ _ _ _ _ _ _ _ _ _ _ _ _ _ _ _ _ _ _ _ _ _ _ _ _ _ _ _ _ _ _ _ _ _ _ _ _ _ _ _ _ _ _ _ _ _ _ _ A1 A6 n1 c1 g k q L.length cap6 base i y z1 a u w _ L _ _ _ _ HZ1 rfl hL hlt1 hk4 hy0 hy1 hs128 hs1 hn64 HK HQ hqn hInv hfull hS2 ?_) (by assumption)
              intro v6 v7 v8 d4 d17 d18 d19 d20 d67 d68 d69 d70 d71 d72 d73 d74 d75 d76 d77 d78 d79 d80 d81 d82 d83 d84 d85 d86 d87 d88 d89 d90 d91 d92 d93 d94 d95 d96 d97 d98 d99 d100 d101 d102 d103 d104 d105 d106 d107 d108 d109 d110 d111 d112 d113 d114 d115 d116 d117 d118 d119 d120 d121 d122 d123 d124 d125 d126 d127 d128 d129 d130 d131 d132 d133 d134 d135 d136 d137 d138 d139 d140 d141 d142 d143 d144 d145 d146 d147 d148 d149 d150 d151 d152 d153 d154 d155 d156 d157 d158 d159 d160 d161 d162 d163 d164 d165 d166 d167 d168 d169 d170 d171 d172 d173 d174 d175 d176 d177 d178 d179 d180 d181 d182 d183 d184 d185 d186 d187 d188 d189 d190 d191 d192 d193 d194 d195 d196 d197 d198 d199 d200 d201 d202 d203 d204 d205 d206 d207 d208 d209 d210 d211 d212 d213 d214 d215 d216 d217 d218 d219 d220 d221 d222 d223 d224 d225 d226 d227 d228 d229 d230 d231 d232 d233 d234 d235 d236 d237 d238 d239 d240 d241 d242 wF LF uF hlF hIF hSF
              clear hS2 hInv HQ hqn
              go_wp2
              go_roundw
              case rel => exact ⟨i + 1, LF, uF, by omega, by omega, by go_num, hlF, hIF, hSF⟩
              case measure => simp [intOf]; omega
      · have n1_ : ¬ (i : Int) < 150 := by omega
        go_wp2
        go_ret
        exact ⟨rfl, hSt.below⟩
    · have n1_ : ¬ i < n0 := hlt
      go_wp2
      go_ret
      exact ⟨rfl, hSt.below⟩
end Go.Proofs.Ytefkaikedapokaa
