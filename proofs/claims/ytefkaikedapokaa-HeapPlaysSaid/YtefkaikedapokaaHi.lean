/- The law HeapFills: its walk. -/
import Derived.Test.YtefkaikedapokaaHh
import Derived.Deep.LoopGhost
namespace Go.Proofs.Ytefkaikedapokaa
open Go.RowKit
set_option linter.unusedSimpArgs false
set_option linter.unusedVariables false

/-- Of class K the first j are in use. -/
def firsts (K j : Nat) : Nat → Nat → Bool := fun k i => decide (k = K ∧ i < j)
theorem firsts_zero (K : Nat) : firsts K 0 = fun _ _ => false := by funext k i; simp [firsts]
theorem firsts_next (K j : Nat) : upd (firsts K j) K j true = firsts K (j + 1) := by
  funext k i
  unfold upd firsts
  by_cases h : k = K ∧ i = j
  · obtain ⟨rfl, rfl⟩ := h; simp
  · rw [if_neg h]
    by_cases hk : k = K
    · simp [hk]
      by_cases hi : i < j
      · simp [hi]; omega
      · simp [hi]; omega
    · simp [hk]
theorem firsts_at (K j : Nat) : firsts K j K j = false := by simp [firsts]
theorem firsts_lt (K j i : Nat) (h : i < j) : firsts K j K i = true := by simp [firsts, h]

/-- The addresses of the first j blocks. -/
def addrs (B b : Int) (j : Nat) : List Int := (List.range j).map fun i => B + b * (i : Nat)
theorem addrs_len (B b : Int) (j : Nat) : (addrs B b j).length = j := by simp [addrs]
theorem addrs_get (B b : Int) (j i : Nat) (h : i < j) : (addrs B b j)[i]? = some (B + b * (i : Nat)) := by simp [addrs, h]
theorem addrs_next (B b : Int) (j : Nat) : addrs B b (j + 1) = addrs B b j ++ [B + b * (j : Nat)] := by simp [addrs, List.range_succ]

/-- One append beside the heap. -/
theorem after_app {W w3 w4 : World} {base g : Nat} {a : Nat → Nat} {u : Nat → Nat → Bool} {v : Value} {xs : List Int} {o : Obj} (hI : Ints w3 base v xs) (hH : HeapAt w3 g a u) (hB : Below W.heap.size W w3) (hs : base ≤ w3.heap.size)
    (hW : W.heap.size ≤ base) (hg : g < base) (ha : ∀ k, k < 4 → a k < base) (hG : (w3.alloc o).grownBy w4 v.ownBlock) : HeapAt w4 g a u ∧ Below W.heap.size W w4 ∧ base ≤ w4.heap.size := by
  have hI' := ints_below hI (bl_one w3 o)
  have hs' : base ≤ (w3.alloc o).heap.size := Nat.le_trans hs (bl_one w3 o).size
  exact ⟨(hH.below (bl_one _ _)).grown hI' hG hg ha, below_grown (bl_alloc hB o) hI' hG hW (Nat.le_trans hW hs'), Nat.le_trans hs' hG.size⟩

theorem cnt_firsts (K n m : Nat) (h : m ≤ n) : cnt (firsts K n K) m = m := by
  induction m with
  | zero => rfl
  | succ m ih => rw [cnt_yes (firsts_lt K n m (by omega)), ih (by omega)]
theorem cnt_same {f f' : Nat → Bool} {n : Nat} (h : ∀ i, i < n → f i = f' i) : cnt f n = cnt f' n := by
  induction n with
  | zero => rfl
  | succ n ih => unfold cnt; rw [ih fun i hi => h i (by omega), h n (by omega)]
theorem cnt_clear {u : Nat → Nat → Bool} {K m n : Nat} (hm : m < n) (h : u K m = true) : cnt (upd u K m false K) n + 1 = cnt (u K) n := by
  induction n with
  | zero => omega
  | succ n ih =>
    by_cases e : m = n
    · subst e
      rw [cnt_no (by simp [upd]), cnt_yes h, cnt_same (f := upd u K m false K) (f' := u K) fun i hi => by simp [upd]; omega]
    · have ih := ih (by omega)
      have hn : upd u K m false K n = u K n := by simp [upd]; omega
      unfold cnt
      rw [hn]
      omega
theorem cnt_zero {f : Nat → Bool} {n i : Nat} (h : cnt f n = 0) (hi : i < n) : f i = false := by
  induction n with
  | zero => omega
  | succ n ih =>
    unfold cnt at h
    by_cases e : i = n
    · subst e
      cases hf : f i with
      | false => rfl
      | true => rw [hf] at h; simp at h
    · exact ih (by omega) (by omega)
theorem liveN_0 (c : Int) (g : Nat) (a : Nat → Nat) (u : Nat → Nat → Bool) (w : World) (hH : HeapAt w g a u) (hc : ((cnt (u 0) 64 : Nat) : Int) = c) :
    Calls Try.prog 9 #[.pointer (some ⟨g, 0, none⟩), .int .i64 0] w fun e w' => e = .returned (.int .i64 c) ∧ w = w' := by
  subst hc
  exact live_0 g a u w hH
theorem liveN_1 (c : Int) (g : Nat) (a : Nat → Nat) (u : Nat → Nat → Bool) (w : World) (hH : HeapAt w g a u) (hc : ((cnt (u 1) 32 : Nat) : Int) = c) :
    Calls Try.prog 9 #[.pointer (some ⟨g, 0, none⟩), .int .i64 1] w fun e w' => e = .returned (.int .i64 c) ∧ w = w' := by
  subst hc
  exact live_1 g a u w hH
theorem liveN_2 (c : Int) (g : Nat) (a : Nat → Nat) (u : Nat → Nat → Bool) (w : World) (hH : HeapAt w g a u) (hc : ((cnt (u 2) 16 : Nat) : Int) = c) :
    Calls Try.prog 9 #[.pointer (some ⟨g, 0, none⟩), .int .i64 2] w fun e w' => e = .returned (.int .i64 c) ∧ w = w' := by
  subst hc
  exact live_2 g a u w hH
theorem liveN_3 (c : Int) (g : Nat) (a : Nat → Nat) (u : Nat → Nat → Bool) (w : World) (hH : HeapAt w g a u) (hc : ((cnt (u 3) 8 : Nat) : Int) = c) :
    Calls Try.prog 9 #[.pointer (some ⟨g, 0, none⟩), .int .i64 3] w fun e w' => e = .returned (.int .i64 c) ∧ w = w' := by
  subst hc
  exact live_3 g a u w hH

set_option maxHeartbeats 8000000 in
set_option maxRecDepth 100000 in
theorem fills_0 (n t y r : Int) (T : Nat) (hy : bits .and .i64 n 127 = y) (h0 : 0 ≤ y) (h1 : y ≤ 4) (hr : t.tmod 64 = r) (hr0 : 0 ≤ r + 64) (hr1 : r < 64) (hT : (r + 64) % 64 = (T : Int)) (hT1 : T < 64) (w : World) :
    Calls Try.prog 3 #[.int .i64 n, .int .i64 t] w fun e w' => e = .returned (.bool true) ∧ Below w.heap.size w w' := by
  have HT := Lib.hid hT
  clear hT
  go_enter Try.func3, Try.ntmps3
  go_wp2_with fail
  refine (new_any _).mono ?_
  rintro e w1 ⟨g, a, rfl, hb1, hg1, ha1, hH1⟩
  go_wp2_with fail
  refine (class_0 y h0 h1 _).mono ?_
  rintro e w2 ⟨rfl, hb2⟩
  have hz1 := hb1.size
  have hz2 := hb2.size
  have hH2 : HeapAt w2 g a (firsts 0 0) := by rw [firsts_zero]; exact hH1.below hb2
  have hB2 := bl_then hb1 hb2
  have hg2 : g < w2.heap.size := hH2.lt_g
  have ha2 : ∀ k, k < 4 → a k < w2.heap.size := fun k hk => hH2.lt_a k hk
  have hI2 := ints_nil w2 w2.heap.size
  obtain ⟨base, hbase⟩ : ∃ base, base = w2.heap.size := ⟨_, rfl⟩
  rw [← hbase] at hg2 ha2 hI2
  have hbs : base ≤ w2.heap.size := by omega
  have hW : w.heap.size ≤ base := by omega
  have HA1 := Lib.hid ha1
  have HA2 := Lib.hid ha2
  clear hbase hb1 hb2 hH1 ha1 ha2
  go_wp2
  go_loopw [10, 11] (fun va vi wr => ∃ j : Nat, j ≤ 64 ∧ vi = .int .i64 j ∧ Ints wr base va (addrs 262144 16 j) ∧ HeapAt wr g a (firsts 0 j) ∧ Below w.heap.size w wr ∧ base ≤ wr.heap.size) (fun _ vi _ => 64 - (intOf vi).toNat)
  case atStart => exact ⟨0, by omega, rfl, hI2, hH2, hB2, hbs⟩
  case round =>
    obtain ⟨j, hj, rfl, hI, hH, hB, hs⟩ := hrel
    clear hI2 hH2 hB2 hbs
    by_cases hlt : j < 64
    · go_wp2_with fail
      refine (alloc_in_0 y h0 h1 j hlt g a _ _ hH (firsts_at 0 j) (fun i hi => firsts_lt 0 j i hi)).mono ?_
      rintro e w3 ⟨rfl, hH3, hB3⟩
      rw [firsts_next] at hH3
      have hI3 := ints_hb hI hB3 HA2.out
      have hB3' := hB3.below hB HA1.out
      have hs3 : base ≤ w3.heap.size := Nat.le_trans hs hB3.size
      clear hI hH hB hB3
      by_cases hj0 : j = 0
      · subst hj0
        go_wp2_with (at_builtin; refine app_one rfl (.tmp 67) (.tmp 69) rfl base _ _ rfl hI3 _ (by rw [addrs_len]; omega) hs3 rfl ?_; intro v4 w4 hI4 hG4)
        obtain ⟨hH4, hB4, hs4⟩ := after_app hI3 hH3 hB3' hs3 hW hg2 HA2.out hG4
        go_roundw
        case rel => exact ⟨1, by omega, rfl, hI4, hH4, hB4, hs4⟩
        case measure => simp [intOf]
      · have hj1 : 0 < j := by omega
        obtain ⟨gb, cap, rfl, hgb, hgl, hc1, hc2, hget⟩ := ints_open hI3 (by intro e; have := congrArg List.length e; rw [addrs_len] at this; simp at this; omega)
        rw [addrs_len] at hc1
        simp only [addrs_len] at hI3
        have hcell : w3.cell? ⟨gb, j - 1, none⟩ = some (.int .i64 (262144 + 16 * (j : Int) - 16)) := by
          have h := hget (j - 1) _ (addrs_get 262144 16 j (j - 1) (by omega))
          rw [h]
          congr 2
          omega
        have d1 : decide (0 < j) = true := decide_eq_true hj1
        have d2 : 0 ≤ (j : Int) - 1 := by omega
        have HG := Lib.hid hget
        clear hget hj0
        rw [addrs_len]
        go_wp2_with (at_builtin; refine app_one rfl (.tmp 67) (.tmp 69) rfl base _ _ rfl hI3 _ (by rw [addrs_len]; omega) hs3 rfl ?_; intro v4 w4 hI4 hG4)
        obtain ⟨hH4, hB4, hs4⟩ := after_app hI3 hH3 hB3' hs3 hW hg2 HA2.out hG4
        rw [← addrs_next] at hI4
        go_roundw
        case rel => exact ⟨j + 1, by omega, by go_num, hI4, hH4, hB4, hs4⟩
        case measure => simp [intOf]; omega
    · obtain rfl : j = 64 := by omega
      go_wp2_with fail
      refine (alloc_full_0 y h0 h1 g a _ _ hH (fun i hi => firsts_lt 0 64 i hi)).mono ?_
      rintro e w3 ⟨rfl, hb3⟩
      have hI3 := ints_below hI hb3
      have hH3 := hH.below hb3
      have hB3 := bl_then hB hb3
      have hs3 : base ≤ w3.heap.size := Nat.le_trans hs hb3.size
      clear hI hH hB hb3
      go_wp2_with fail
      refine (liveN_0 64 g a _ _ hH3 (by rw [cnt_firsts 0 64 64 (Nat.le_refl _)]; rfl)).mono ?_
      rintro e w' ⟨rfl, rfl⟩
      obtain ⟨gb, cap, rfl, hgb, hgl, hc1, hc2, hget⟩ := ints_open hI3 (by intro e; have := congrArg List.length e; rw [addrs_len] at this; simp at this)
      simp only [addrs_len] at hI3 hc1
      have HG := Lib.hid hget
      clear hget
      rw [addrs_len]
      go_wp2
      rw [HT.out]
      have hu0 : ∀ i, i < 64 → firsts 0 64 0 i = true := fun i hi => firsts_lt 0 64 i hi
      have hc0 := cnt_firsts 0 64 64 (Nat.le_refl _)
      generalize firsts 0 64 = uu at hH3 hu0 hc0
      have HU := Lib.hid hu0
      have HC := Lib.hid hc0
      clear hu0 hc0 hc2
      go_loopw [16] (fun vi wr => ∃ (j : Nat) (u : Nat → Nat → Bool), j ≤ 64 ∧ vi = .int .i64 j ∧ Hid (cnt (u 0) 64 + j = 64) ∧ Hid (∀ s, j ≤ s → s < 64 → u 0 ((T + s) % 64) = true) ∧ HeapAt wr g a u ∧ Ints wr base (.slice (some ⟨gb, 0, none⟩) 64 cap) (addrs 262144 16 64) ∧ Below w.heap.size w wr ∧ base ≤ wr.heap.size) (fun vi _ => 64 - (intOf vi).toNat)
      case atStart => exact ⟨0, uu, by omega, rfl, HC.out, fun s _ _ => HU.out _ (by omega), hH3, hI3, hB3, hs3⟩
      case round =>
        obtain ⟨j, u, hj, rfl, hcn, hall, hH, hI, hB, hs⟩ := hrel
        clear hH3 hI3 hB3 hs3 HG HU HC
        obtain ⟨_, _, e_, _, _, _, _, hget⟩ := ints_open hI (by intro e; have := congrArg List.length e; rw [addrs_len] at this; simp at this)
        cases e_
        have HG := Lib.hid hget
        clear hget
        by_cases hlt : j < 64
        · obtain ⟨m, hm⟩ : ∃ m : Nat, m = (T + j) % 64 := ⟨_, rfl⟩
          have hm1 : m < 64 := by omega
          have hmi : ((T : Int) + (j : Int)) % 64 = (m : Int) := by omega
          have hcell := HG.out m _ (addrs_get 262144 16 64 m hm1)
          have hum : u 0 m = true := by rw [hm]; exact hall.out j (Nat.le_refl _) hlt
          have hT0 : 0 ≤ (T : Int) + (j : Int) := by omega
          have HMM := Lib.hid hm
          have HUM := Lib.hid hum
          clear hm hum
          go_wp2_with fail
          refine (free_ok_0 _ m rfl hm1 g a u _ hH HUM.out).mono ?_
          rintro e w3 ⟨rfl, hH3, hB3⟩
          have hI3 := ints_hb hI hB3 HA2.out
          have hB3' := hB3.below hB HA1.out
          have hs3 : base ≤ w3.heap.size := Nat.le_trans hs hB3.size
          have hcn3 : cnt (upd u 0 m false 0) 64 + (j + 1) = 64 := by have := cnt_clear hm1 HUM.out; have := hcn.out; omega
          have HCN := Lib.hid hcn3
          have HALL : Hid (∀ s, j + 1 ≤ s → s < 64 → upd u 0 m false 0 ((T + s) % 64) = true) := by
            intro s hs1 hs2
            have e1 := hall.out s (by omega) hs2
            have e2 := HMM.out
            unfold upd
            rw [if_neg (by omega)]
            exact e1
          clear hI hH hB hB3 hcn3 hcell
          go_wp2_with fail
          refine (liveN_0 (64 - 1 - (j : Int)) g a _ _ hH3 (by have := HCN.out; omega)).mono ?_
          rintro e w' ⟨rfl, rfl⟩
          go_wp2
          go_roundw
          case rel => exact ⟨j + 1, _, by omega, by go_num, HCN, HALL, hH3, hI3, hB3', hs3⟩
          case measure => simp [intOf]; omega
        · obtain rfl : j = 64 := by omega
          have hz0 : u 0 0 = false := cnt_zero (n := 64) (by have := hcn.out; omega) (by omega)
          have HZ := Lib.hid hz0
          have hcell := HG.out 0 _ (addrs_get 262144 16 64 0 (by omega))
          clear hz0
          go_wp2_with fail
          refine (alloc_in_0 y h0 h1 0 (by omega) g a u _ hH HZ.out (fun i hi => absurd hi (Nat.not_lt_zero _))).mono ?_
          rintro e w3 ⟨rfl, hH3, hB3⟩
          have hcell3 := (World.cell?_of_block (w := wr) (hB3.block gb (cell_lt hcell) (fun k hk e => by have := HA2.out k hk; omega))).trans hcell
          have hB3' := hB3.below hB HA1.out
          clear hB3 hcell hI hH hB
          go_wp2
          go_ret
          exact ⟨rfl, hB3'⟩

set_option maxHeartbeats 8000000 in
set_option maxRecDepth 100000 in
theorem fills_1 (n t y r : Int) (T : Nat) (hy : bits .and .i64 n 127 = y) (h0 : 5 ≤ y) (h1 : y ≤ 16) (hr : t.tmod 32 = r) (hr0 : 0 ≤ r + 32) (hr1 : r < 32) (hT : (r + 32) % 32 = (T : Int)) (hT1 : T < 32) (w : World) :
    Calls Try.prog 3 #[.int .i64 n, .int .i64 t] w fun e w' => e = .returned (.bool true) ∧ Below w.heap.size w w' := by
  have HT := Lib.hid hT
  clear hT
  go_enter Try.func3, Try.ntmps3
  go_wp2_with fail
  refine (new_any _).mono ?_
  rintro e w1 ⟨g, a, rfl, hb1, hg1, ha1, hH1⟩
  go_wp2_with fail
  refine (class_1 y h0 h1 _).mono ?_
  rintro e w2 ⟨rfl, hb2⟩
  have hz1 := hb1.size
  have hz2 := hb2.size
  have hH2 : HeapAt w2 g a (firsts 1 0) := by rw [firsts_zero]; exact hH1.below hb2
  have hB2 := bl_then hb1 hb2
  have hg2 : g < w2.heap.size := hH2.lt_g
  have ha2 : ∀ k, k < 4 → a k < w2.heap.size := fun k hk => hH2.lt_a k hk
  have hI2 := ints_nil w2 w2.heap.size
  obtain ⟨base, hbase⟩ : ∃ base, base = w2.heap.size := ⟨_, rfl⟩
  rw [← hbase] at hg2 ha2 hI2
  have hbs : base ≤ w2.heap.size := by omega
  have hW : w.heap.size ≤ base := by omega
  have HA1 := Lib.hid ha1
  have HA2 := Lib.hid ha2
  clear hbase hb1 hb2 hH1 ha1 ha2
  go_wp2
  go_loopw [10, 11] (fun va vi wr => ∃ j : Nat, j ≤ 32 ∧ vi = .int .i64 j ∧ Ints wr base va (addrs 263168 64 j) ∧ HeapAt wr g a (firsts 1 j) ∧ Below w.heap.size w wr ∧ base ≤ wr.heap.size) (fun _ vi _ => 32 - (intOf vi).toNat)
  case atStart => exact ⟨0, by omega, rfl, hI2, hH2, hB2, hbs⟩
  case round =>
    obtain ⟨j, hj, rfl, hI, hH, hB, hs⟩ := hrel
    clear hI2 hH2 hB2 hbs
    by_cases hlt : j < 32
    · go_wp2_with fail
      refine (alloc_in_1 y h0 h1 j hlt g a _ _ hH (firsts_at 1 j) (fun i hi => firsts_lt 1 j i hi)).mono ?_
      rintro e w3 ⟨rfl, hH3, hB3⟩
      rw [firsts_next] at hH3
      have hI3 := ints_hb hI hB3 HA2.out
      have hB3' := hB3.below hB HA1.out
      have hs3 : base ≤ w3.heap.size := Nat.le_trans hs hB3.size
      clear hI hH hB hB3
      by_cases hj0 : j = 0
      · subst hj0
        go_wp2_with (at_builtin; refine app_one rfl (.tmp 67) (.tmp 69) rfl base _ _ rfl hI3 _ (by rw [addrs_len]; omega) hs3 rfl ?_; intro v4 w4 hI4 hG4)
        obtain ⟨hH4, hB4, hs4⟩ := after_app hI3 hH3 hB3' hs3 hW hg2 HA2.out hG4
        go_roundw
        case rel => exact ⟨1, by omega, rfl, hI4, hH4, hB4, hs4⟩
        case measure => simp [intOf]
      · have hj1 : 0 < j := by omega
        obtain ⟨gb, cap, rfl, hgb, hgl, hc1, hc2, hget⟩ := ints_open hI3 (by intro e; have := congrArg List.length e; rw [addrs_len] at this; simp at this; omega)
        rw [addrs_len] at hc1
        simp only [addrs_len] at hI3
        have hcell : w3.cell? ⟨gb, j - 1, none⟩ = some (.int .i64 (263168 + 64 * (j : Int) - 64)) := by
          have h := hget (j - 1) _ (addrs_get 263168 64 j (j - 1) (by omega))
          rw [h]
          congr 2
          omega
        have d1 : decide (0 < j) = true := decide_eq_true hj1
        have d2 : 0 ≤ (j : Int) - 1 := by omega
        have HG := Lib.hid hget
        clear hget hj0
        rw [addrs_len]
        go_wp2_with (at_builtin; refine app_one rfl (.tmp 67) (.tmp 69) rfl base _ _ rfl hI3 _ (by rw [addrs_len]; omega) hs3 rfl ?_; intro v4 w4 hI4 hG4)
        obtain ⟨hH4, hB4, hs4⟩ := after_app hI3 hH3 hB3' hs3 hW hg2 HA2.out hG4
        rw [← addrs_next] at hI4
        go_roundw
        case rel => exact ⟨j + 1, by omega, by go_num, hI4, hH4, hB4, hs4⟩
        case measure => simp [intOf]; omega
    · obtain rfl : j = 32 := by omega
      go_wp2_with fail
      refine (alloc_full_1 y h0 h1 g a _ _ hH (fun i hi => firsts_lt 1 32 i hi)).mono ?_
      rintro e w3 ⟨rfl, hb3⟩
      have hI3 := ints_below hI hb3
      have hH3 := hH.below hb3
      have hB3 := bl_then hB hb3
      have hs3 : base ≤ w3.heap.size := Nat.le_trans hs hb3.size
      clear hI hH hB hb3
      go_wp2_with fail
      refine (liveN_1 32 g a _ _ hH3 (by rw [cnt_firsts 1 32 32 (Nat.le_refl _)]; rfl)).mono ?_
      rintro e w' ⟨rfl, rfl⟩
      obtain ⟨gb, cap, rfl, hgb, hgl, hc1, hc2, hget⟩ := ints_open hI3 (by intro e; have := congrArg List.length e; rw [addrs_len] at this; simp at this)
      simp only [addrs_len] at hI3 hc1
      have HG := Lib.hid hget
      clear hget
      rw [addrs_len]
      go_wp2
      rw [HT.out]
      have hu0 : ∀ i, i < 32 → firsts 1 32 1 i = true := fun i hi => firsts_lt 1 32 i hi
      have hc0 := cnt_firsts 1 32 32 (Nat.le_refl _)
      generalize firsts 1 32 = uu at hH3 hu0 hc0
      have HU := Lib.hid hu0
      have HC := Lib.hid hc0
      clear hu0 hc0 hc2
      go_loopw [16] (fun vi wr => ∃ (j : Nat) (u : Nat → Nat → Bool), j ≤ 32 ∧ vi = .int .i64 j ∧ Hid (cnt (u 1) 32 + j = 32) ∧ Hid (∀ s, j ≤ s → s < 32 → u 1 ((T + s) % 32) = true) ∧ HeapAt wr g a u ∧ Ints wr base (.slice (some ⟨gb, 0, none⟩) 32 cap) (addrs 263168 64 32) ∧ Below w.heap.size w wr ∧ base ≤ wr.heap.size) (fun vi _ => 32 - (intOf vi).toNat)
      case atStart => exact ⟨0, uu, by omega, rfl, HC.out, fun s _ _ => HU.out _ (by omega), hH3, hI3, hB3, hs3⟩
      case round =>
        obtain ⟨j, u, hj, rfl, hcn, hall, hH, hI, hB, hs⟩ := hrel
        clear hH3 hI3 hB3 hs3 HG HU HC
        obtain ⟨_, _, e_, _, _, _, _, hget⟩ := ints_open hI (by intro e; have := congrArg List.length e; rw [addrs_len] at this; simp at this)
        cases e_
        have HG := Lib.hid hget
        clear hget
        by_cases hlt : j < 32
        · obtain ⟨m, hm⟩ : ∃ m : Nat, m = (T + j) % 32 := ⟨_, rfl⟩
          have hm1 : m < 32 := by omega
          have hmi : ((T : Int) + (j : Int)) % 32 = (m : Int) := by omega
          have hcell := HG.out m _ (addrs_get 263168 64 32 m hm1)
          have hum : u 1 m = true := by rw [hm]; exact hall.out j (Nat.le_refl _) hlt
          have hT0 : 0 ≤ (T : Int) + (j : Int) := by omega
          have HMM := Lib.hid hm
          have HUM := Lib.hid hum
          clear hm hum
          go_wp2_with fail
          refine (free_ok_1 _ m rfl hm1 g a u _ hH HUM.out).mono ?_
          rintro e w3 ⟨rfl, hH3, hB3⟩
          have hI3 := ints_hb hI hB3 HA2.out
          have hB3' := hB3.below hB HA1.out
          have hs3 : base ≤ w3.heap.size := Nat.le_trans hs hB3.size
          have hcn3 : cnt (upd u 1 m false 1) 32 + (j + 1) = 32 := by have := cnt_clear hm1 HUM.out; have := hcn.out; omega
          have HCN := Lib.hid hcn3
          have HALL : Hid (∀ s, j + 1 ≤ s → s < 32 → upd u 1 m false 1 ((T + s) % 32) = true) := by
            intro s hs1 hs2
            have e1 := hall.out s (by omega) hs2
            have e2 := HMM.out
            unfold upd
            rw [if_neg (by omega)]
            exact e1
          clear hI hH hB hB3 hcn3 hcell
          go_wp2_with fail
          refine (liveN_1 (32 - 1 - (j : Int)) g a _ _ hH3 (by have := HCN.out; omega)).mono ?_
          rintro e w' ⟨rfl, rfl⟩
          go_wp2
          go_roundw
          case rel => exact ⟨j + 1, _, by omega, by go_num, HCN, HALL, hH3, hI3, hB3', hs3⟩
          case measure => simp [intOf]; omega
        · obtain rfl : j = 32 := by omega
          have hz0 : u 1 0 = false := cnt_zero (n := 32) (by have := hcn.out; omega) (by omega)
          have HZ := Lib.hid hz0
          have hcell := HG.out 0 _ (addrs_get 263168 64 32 0 (by omega))
          clear hz0
          go_wp2_with fail
          refine (alloc_in_1 y h0 h1 0 (by omega) g a u _ hH HZ.out (fun i hi => absurd hi (Nat.not_lt_zero _))).mono ?_
          rintro e w3 ⟨rfl, hH3, hB3⟩
          have hcell3 := (World.cell?_of_block (w := wr) (hB3.block gb (cell_lt hcell) (fun k hk e => by have := HA2.out k hk; omega))).trans hcell
          have hB3' := hB3.below hB HA1.out
          clear hB3 hcell hI hH hB
          go_wp2
          go_ret
          exact ⟨rfl, hB3'⟩

set_option maxHeartbeats 8000000 in
set_option maxRecDepth 100000 in
theorem fills_2 (n t y r : Int) (T : Nat) (hy : bits .and .i64 n 127 = y) (h0 : 17 ≤ y) (h1 : y ≤ 64) (hr : t.tmod 16 = r) (hr0 : 0 ≤ r + 16) (hr1 : r < 16) (hT : (r + 16) % 16 = (T : Int)) (hT1 : T < 16) (w : World) :
    Calls Try.prog 3 #[.int .i64 n, .int .i64 t] w fun e w' => e = .returned (.bool true) ∧ Below w.heap.size w w' := by
  have HT := Lib.hid hT
  clear hT
  go_enter Try.func3, Try.ntmps3
  go_wp2_with fail
  refine (new_any _).mono ?_
  rintro e w1 ⟨g, a, rfl, hb1, hg1, ha1, hH1⟩
  go_wp2_with fail
  refine (class_2 y h0 h1 _).mono ?_
  rintro e w2 ⟨rfl, hb2⟩
  have hz1 := hb1.size
  have hz2 := hb2.size
  have hH2 : HeapAt w2 g a (firsts 2 0) := by rw [firsts_zero]; exact hH1.below hb2
  have hB2 := bl_then hb1 hb2
  have hg2 : g < w2.heap.size := hH2.lt_g
  have ha2 : ∀ k, k < 4 → a k < w2.heap.size := fun k hk => hH2.lt_a k hk
  have hI2 := ints_nil w2 w2.heap.size
  obtain ⟨base, hbase⟩ : ∃ base, base = w2.heap.size := ⟨_, rfl⟩
  rw [← hbase] at hg2 ha2 hI2
  have hbs : base ≤ w2.heap.size := by omega
  have hW : w.heap.size ≤ base := by omega
  have HA1 := Lib.hid ha1
  have HA2 := Lib.hid ha2
  clear hbase hb1 hb2 hH1 ha1 ha2
  go_wp2
  go_loopw [10, 11] (fun va vi wr => ∃ j : Nat, j ≤ 16 ∧ vi = .int .i64 j ∧ Ints wr base va (addrs 265216 256 j) ∧ HeapAt wr g a (firsts 2 j) ∧ Below w.heap.size w wr ∧ base ≤ wr.heap.size) (fun _ vi _ => 16 - (intOf vi).toNat)
  case atStart => exact ⟨0, by omega, rfl, hI2, hH2, hB2, hbs⟩
  case round =>
    obtain ⟨j, hj, rfl, hI, hH, hB, hs⟩ := hrel
    clear hI2 hH2 hB2 hbs
    by_cases hlt : j < 16
    · go_wp2_with fail
      refine (alloc_in_2 y h0 h1 j hlt g a _ _ hH (firsts_at 2 j) (fun i hi => firsts_lt 2 j i hi)).mono ?_
      rintro e w3 ⟨rfl, hH3, hB3⟩
      rw [firsts_next] at hH3
      have hI3 := ints_hb hI hB3 HA2.out
      have hB3' := hB3.below hB HA1.out
      have hs3 : base ≤ w3.heap.size := Nat.le_trans hs hB3.size
      clear hI hH hB hB3
      by_cases hj0 : j = 0
      · subst hj0
        go_wp2_with (at_builtin; refine app_one rfl (.tmp 67) (.tmp 69) rfl base _ _ rfl hI3 _ (by rw [addrs_len]; omega) hs3 rfl ?_; intro v4 w4 hI4 hG4)
        obtain ⟨hH4, hB4, hs4⟩ := after_app hI3 hH3 hB3' hs3 hW hg2 HA2.out hG4
        go_roundw
        case rel => exact ⟨1, by omega, rfl, hI4, hH4, hB4, hs4⟩
        case measure => simp [intOf]
      · have hj1 : 0 < j := by omega
        obtain ⟨gb, cap, rfl, hgb, hgl, hc1, hc2, hget⟩ := ints_open hI3 (by intro e; have := congrArg List.length e; rw [addrs_len] at this; simp at this; omega)
        rw [addrs_len] at hc1
        simp only [addrs_len] at hI3
        have hcell : w3.cell? ⟨gb, j - 1, none⟩ = some (.int .i64 (265216 + 256 * (j : Int) - 256)) := by
          have h := hget (j - 1) _ (addrs_get 265216 256 j (j - 1) (by omega))
          rw [h]
          congr 2
          omega
        have d1 : decide (0 < j) = true := decide_eq_true hj1
        have d2 : 0 ≤ (j : Int) - 1 := by omega
        have HG := Lib.hid hget
        clear hget hj0
        rw [addrs_len]
        go_wp2_with (at_builtin; refine app_one rfl (.tmp 67) (.tmp 69) rfl base _ _ rfl hI3 _ (by rw [addrs_len]; omega) hs3 rfl ?_; intro v4 w4 hI4 hG4)
        obtain ⟨hH4, hB4, hs4⟩ := after_app hI3 hH3 hB3' hs3 hW hg2 HA2.out hG4
        rw [← addrs_next] at hI4
        go_roundw
        case rel => exact ⟨j + 1, by omega, by go_num, hI4, hH4, hB4, hs4⟩
        case measure => simp [intOf]; omega
    · obtain rfl : j = 16 := by omega
      go_wp2_with fail
      refine (alloc_full_2 y h0 h1 g a _ _ hH (fun i hi => firsts_lt 2 16 i hi)).mono ?_
      rintro e w3 ⟨rfl, hb3⟩
      have hI3 := ints_below hI hb3
      have hH3 := hH.below hb3
      have hB3 := bl_then hB hb3
      have hs3 : base ≤ w3.heap.size := Nat.le_trans hs hb3.size
      clear hI hH hB hb3
      go_wp2_with fail
      refine (liveN_2 16 g a _ _ hH3 (by rw [cnt_firsts 2 16 16 (Nat.le_refl _)]; rfl)).mono ?_
      rintro e w' ⟨rfl, rfl⟩
      obtain ⟨gb, cap, rfl, hgb, hgl, hc1, hc2, hget⟩ := ints_open hI3 (by intro e; have := congrArg List.length e; rw [addrs_len] at this; simp at this)
      simp only [addrs_len] at hI3 hc1
      have HG := Lib.hid hget
      clear hget
      rw [addrs_len]
      go_wp2
      rw [HT.out]
      have hu0 : ∀ i, i < 16 → firsts 2 16 2 i = true := fun i hi => firsts_lt 2 16 i hi
      have hc0 := cnt_firsts 2 16 16 (Nat.le_refl _)
      generalize firsts 2 16 = uu at hH3 hu0 hc0
      have HU := Lib.hid hu0
      have HC := Lib.hid hc0
      clear hu0 hc0 hc2
      go_loopw [16] (fun vi wr => ∃ (j : Nat) (u : Nat → Nat → Bool), j ≤ 16 ∧ vi = .int .i64 j ∧ Hid (cnt (u 2) 16 + j = 16) ∧ Hid (∀ s, j ≤ s → s < 16 → u 2 ((T + s) % 16) = true) ∧ HeapAt wr g a u ∧ Ints wr base (.slice (some ⟨gb, 0, none⟩) 16 cap) (addrs 265216 256 16) ∧ Below w.heap.size w wr ∧ base ≤ wr.heap.size) (fun vi _ => 16 - (intOf vi).toNat)
      case atStart => exact ⟨0, uu, by omega, rfl, HC.out, fun s _ _ => HU.out _ (by omega), hH3, hI3, hB3, hs3⟩
      case round =>
        obtain ⟨j, u, hj, rfl, hcn, hall, hH, hI, hB, hs⟩ := hrel
        clear hH3 hI3 hB3 hs3 HG HU HC
        obtain ⟨_, _, e_, _, _, _, _, hget⟩ := ints_open hI (by intro e; have := congrArg List.length e; rw [addrs_len] at this; simp at this)
        cases e_
        have HG := Lib.hid hget
        clear hget
        by_cases hlt : j < 16
        · obtain ⟨m, hm⟩ : ∃ m : Nat, m = (T + j) % 16 := ⟨_, rfl⟩
          have hm1 : m < 16 := by omega
          have hmi : ((T : Int) + (j : Int)) % 16 = (m : Int) := by omega
          have hcell := HG.out m _ (addrs_get 265216 256 16 m hm1)
          have hum : u 2 m = true := by rw [hm]; exact hall.out j (Nat.le_refl _) hlt
          have hT0 : 0 ≤ (T : Int) + (j : Int) := by omega
          have HMM := Lib.hid hm
          have HUM := Lib.hid hum
          clear hm hum
          go_wp2_with fail
          refine (free_ok_2 _ m rfl hm1 g a u _ hH HUM.out).mono ?_
          rintro e w3 ⟨rfl, hH3, hB3⟩
          have hI3 := ints_hb hI hB3 HA2.out
          have hB3' := hB3.below hB HA1.out
          have hs3 : base ≤ w3.heap.size := Nat.le_trans hs hB3.size
          have hcn3 : cnt (upd u 2 m false 2) 16 + (j + 1) = 16 := by have := cnt_clear hm1 HUM.out; have := hcn.out; omega
          have HCN := Lib.hid hcn3
          have HALL : Hid (∀ s, j + 1 ≤ s → s < 16 → upd u 2 m false 2 ((T + s) % 16) = true) := by
            intro s hs1 hs2
            have e1 := hall.out s (by omega) hs2
            have e2 := HMM.out
            unfold upd
            rw [if_neg (by omega)]
            exact e1
          clear hI hH hB hB3 hcn3 hcell
          go_wp2_with fail
          refine (liveN_2 (16 - 1 - (j : Int)) g a _ _ hH3 (by have := HCN.out; omega)).mono ?_
          rintro e w' ⟨rfl, rfl⟩
          go_wp2
          go_roundw
          case rel => exact ⟨j + 1, _, by omega, by go_num, HCN, HALL, hH3, hI3, hB3', hs3⟩
          case measure => simp [intOf]; omega
        · obtain rfl : j = 16 := by omega
          have hz0 : u 2 0 = false := cnt_zero (n := 16) (by have := hcn.out; omega) (by omega)
          have HZ := Lib.hid hz0
          have hcell := HG.out 0 _ (addrs_get 265216 256 16 0 (by omega))
          clear hz0
          go_wp2_with fail
          refine (alloc_in_2 y h0 h1 0 (by omega) g a u _ hH HZ.out (fun i hi => absurd hi (Nat.not_lt_zero _))).mono ?_
          rintro e w3 ⟨rfl, hH3, hB3⟩
          have hcell3 := (World.cell?_of_block (w := wr) (hB3.block gb (cell_lt hcell) (fun k hk e => by have := HA2.out k hk; omega))).trans hcell
          have hB3' := hB3.below hB HA1.out
          clear hB3 hcell hI hH hB
          go_wp2
          go_ret
          exact ⟨rfl, hB3'⟩

set_option maxHeartbeats 8000000 in
set_option maxRecDepth 100000 in
theorem fills_3 (n t y r : Int) (T : Nat) (hy : bits .and .i64 n 127 = y) (h0 : 65 ≤ y) (h1 : y ≤ 128) (hr : t.tmod 8 = r) (hr0 : 0 ≤ r + 8) (hr1 : r < 8) (hT : (r + 8) % 8 = (T : Int)) (hT1 : T < 8) (w : World) :
    Calls Try.prog 3 #[.int .i64 n, .int .i64 t] w fun e w' => e = .returned (.bool true) ∧ Below w.heap.size w w' := by
  have HT := Lib.hid hT
  clear hT
  go_enter Try.func3, Try.ntmps3
  go_wp2_with fail
  refine (new_any _).mono ?_
  rintro e w1 ⟨g, a, rfl, hb1, hg1, ha1, hH1⟩
  go_wp2_with fail
  refine (class_3 y h0 h1 _).mono ?_
  rintro e w2 ⟨rfl, hb2⟩
  have hz1 := hb1.size
  have hz2 := hb2.size
  have hH2 : HeapAt w2 g a (firsts 3 0) := by rw [firsts_zero]; exact hH1.below hb2
  have hB2 := bl_then hb1 hb2
  have hg2 : g < w2.heap.size := hH2.lt_g
  have ha2 : ∀ k, k < 4 → a k < w2.heap.size := fun k hk => hH2.lt_a k hk
  have hI2 := ints_nil w2 w2.heap.size
  obtain ⟨base, hbase⟩ : ∃ base, base = w2.heap.size := ⟨_, rfl⟩
  rw [← hbase] at hg2 ha2 hI2
  have hbs : base ≤ w2.heap.size := by omega
  have hW : w.heap.size ≤ base := by omega
  have HA1 := Lib.hid ha1
  have HA2 := Lib.hid ha2
  clear hbase hb1 hb2 hH1 ha1 ha2
  go_wp2
  go_loopw [10, 11] (fun va vi wr => ∃ j : Nat, j ≤ 8 ∧ vi = .int .i64 j ∧ Ints wr base va (addrs 269312 512 j) ∧ HeapAt wr g a (firsts 3 j) ∧ Below w.heap.size w wr ∧ base ≤ wr.heap.size) (fun _ vi _ => 8 - (intOf vi).toNat)
  case atStart => exact ⟨0, by omega, rfl, hI2, hH2, hB2, hbs⟩
  case round =>
    obtain ⟨j, hj, rfl, hI, hH, hB, hs⟩ := hrel
    clear hI2 hH2 hB2 hbs
    by_cases hlt : j < 8
    · go_wp2_with fail
      refine (alloc_in_3 y h0 h1 j hlt g a _ _ hH (firsts_at 3 j) (fun i hi => firsts_lt 3 j i hi)).mono ?_
      rintro e w3 ⟨rfl, hH3, hB3⟩
      rw [firsts_next] at hH3
      have hI3 := ints_hb hI hB3 HA2.out
      have hB3' := hB3.below hB HA1.out
      have hs3 : base ≤ w3.heap.size := Nat.le_trans hs hB3.size
      clear hI hH hB hB3
      by_cases hj0 : j = 0
      · subst hj0
        go_wp2_with (at_builtin; refine app_one rfl (.tmp 67) (.tmp 69) rfl base _ _ rfl hI3 _ (by rw [addrs_len]; omega) hs3 rfl ?_; intro v4 w4 hI4 hG4)
        obtain ⟨hH4, hB4, hs4⟩ := after_app hI3 hH3 hB3' hs3 hW hg2 HA2.out hG4
        go_roundw
        case rel => exact ⟨1, by omega, rfl, hI4, hH4, hB4, hs4⟩
        case measure => simp [intOf]
      · have hj1 : 0 < j := by omega
        obtain ⟨gb, cap, rfl, hgb, hgl, hc1, hc2, hget⟩ := ints_open hI3 (by intro e; have := congrArg List.length e; rw [addrs_len] at this; simp at this; omega)
        rw [addrs_len] at hc1
        simp only [addrs_len] at hI3
        have hcell : w3.cell? ⟨gb, j - 1, none⟩ = some (.int .i64 (269312 + 512 * (j : Int) - 512)) := by
          have h := hget (j - 1) _ (addrs_get 269312 512 j (j - 1) (by omega))
          rw [h]
          congr 2
          omega
        have d1 : decide (0 < j) = true := decide_eq_true hj1
        have d2 : 0 ≤ (j : Int) - 1 := by omega
        have HG := Lib.hid hget
        clear hget hj0
        rw [addrs_len]
        go_wp2_with (at_builtin; refine app_one rfl (.tmp 67) (.tmp 69) rfl base _ _ rfl hI3 _ (by rw [addrs_len]; omega) hs3 rfl ?_; intro v4 w4 hI4 hG4)
        obtain ⟨hH4, hB4, hs4⟩ := after_app hI3 hH3 hB3' hs3 hW hg2 HA2.out hG4
        rw [← addrs_next] at hI4
        go_roundw
        case rel => exact ⟨j + 1, by omega, by go_num, hI4, hH4, hB4, hs4⟩
        case measure => simp [intOf]; omega
    · obtain rfl : j = 8 := by omega
      go_wp2_with fail
      refine (alloc_full_3 y h0 h1 g a _ _ hH (fun i hi => firsts_lt 3 8 i hi)).mono ?_
      rintro e w3 ⟨rfl, hb3⟩
      have hI3 := ints_below hI hb3
      have hH3 := hH.below hb3
      have hB3 := bl_then hB hb3
      have hs3 : base ≤ w3.heap.size := Nat.le_trans hs hb3.size
      clear hI hH hB hb3
      go_wp2_with fail
      refine (liveN_3 8 g a _ _ hH3 (by rw [cnt_firsts 3 8 8 (Nat.le_refl _)]; rfl)).mono ?_
      rintro e w' ⟨rfl, rfl⟩
      obtain ⟨gb, cap, rfl, hgb, hgl, hc1, hc2, hget⟩ := ints_open hI3 (by intro e; have := congrArg List.length e; rw [addrs_len] at this; simp at this)
      simp only [addrs_len] at hI3 hc1
      have HG := Lib.hid hget
      clear hget
      rw [addrs_len]
      go_wp2
      rw [HT.out]
      have hu0 : ∀ i, i < 8 → firsts 3 8 3 i = true := fun i hi => firsts_lt 3 8 i hi
      have hc0 := cnt_firsts 3 8 8 (Nat.le_refl _)
      generalize firsts 3 8 = uu at hH3 hu0 hc0
      have HU := Lib.hid hu0
      have HC := Lib.hid hc0
      clear hu0 hc0 hc2
      go_loopw [16] (fun vi wr => ∃ (j : Nat) (u : Nat → Nat → Bool), j ≤ 8 ∧ vi = .int .i64 j ∧ Hid (cnt (u 3) 8 + j = 8) ∧ Hid (∀ s, j ≤ s → s < 8 → u 3 ((T + s) % 8) = true) ∧ HeapAt wr g a u ∧ Ints wr base (.slice (some ⟨gb, 0, none⟩) 8 cap) (addrs 269312 512 8) ∧ Below w.heap.size w wr ∧ base ≤ wr.heap.size) (fun vi _ => 8 - (intOf vi).toNat)
      case atStart => exact ⟨0, uu, by omega, rfl, HC.out, fun s _ _ => HU.out _ (by omega), hH3, hI3, hB3, hs3⟩
      case round =>
        obtain ⟨j, u, hj, rfl, hcn, hall, hH, hI, hB, hs⟩ := hrel
        clear hH3 hI3 hB3 hs3 HG HU HC
        obtain ⟨_, _, e_, _, _, _, _, hget⟩ := ints_open hI (by intro e; have := congrArg List.length e; rw [addrs_len] at this; simp at this)
        cases e_
        have HG := Lib.hid hget
        clear hget
        by_cases hlt : j < 8
        · obtain ⟨m, hm⟩ : ∃ m : Nat, m = (T + j) % 8 := ⟨_, rfl⟩
          have hm1 : m < 8 := by omega
          have hmi : ((T : Int) + (j : Int)) % 8 = (m : Int) := by omega
          have hcell := HG.out m _ (addrs_get 269312 512 8 m hm1)
          have hum : u 3 m = true := by rw [hm]; exact hall.out j (Nat.le_refl _) hlt
          have hT0 : 0 ≤ (T : Int) + (j : Int) := by omega
          have HMM := Lib.hid hm
          have HUM := Lib.hid hum
          clear hm hum
          go_wp2_with fail
          refine (free_ok_3 _ m rfl hm1 g a u _ hH HUM.out).mono ?_
          rintro e w3 ⟨rfl, hH3, hB3⟩
          have hI3 := ints_hb hI hB3 HA2.out
          have hB3' := hB3.below hB HA1.out
          have hs3 : base ≤ w3.heap.size := Nat.le_trans hs hB3.size
          have hcn3 : cnt (upd u 3 m false 3) 8 + (j + 1) = 8 := by have := cnt_clear hm1 HUM.out; have := hcn.out; omega
          have HCN := Lib.hid hcn3
          have HALL : Hid (∀ s, j + 1 ≤ s → s < 8 → upd u 3 m false 3 ((T + s) % 8) = true) := by
            intro s hs1 hs2
            have e1 := hall.out s (by omega) hs2
            have e2 := HMM.out
            unfold upd
            rw [if_neg (by omega)]
            exact e1
          clear hI hH hB hB3 hcn3 hcell
          go_wp2_with fail
          refine (liveN_3 (8 - 1 - (j : Int)) g a _ _ hH3 (by have := HCN.out; omega)).mono ?_
          rintro e w' ⟨rfl, rfl⟩
          go_wp2
          go_roundw
          case rel => exact ⟨j + 1, _, by omega, by go_num, HCN, HALL, hH3, hI3, hB3', hs3⟩
          case measure => simp [intOf]; omega
        · obtain rfl : j = 8 := by omega
          have hz0 : u 3 0 = false := cnt_zero (n := 8) (by have := hcn.out; omega) (by omega)
          have HZ := Lib.hid hz0
          have hcell := HG.out 0 _ (addrs_get 269312 512 8 0 (by omega))
          clear hz0
          go_wp2_with fail
          refine (alloc_in_3 y h0 h1 0 (by omega) g a u _ hH HZ.out (fun i hi => absurd hi (Nat.not_lt_zero _))).mono ?_
          rintro e w3 ⟨rfl, hH3, hB3⟩
          have hcell3 := (World.cell?_of_block (w := wr) (hB3.block gb (cell_lt hcell) (fun k hk e => by have := HA2.out k hk; omega))).trans hcell
          have hB3' := hB3.below hB HA1.out
          clear hB3 hcell hI hH hB
          go_wp2
          go_ret
          exact ⟨rfl, hB3'⟩

end Go.Proofs.Ytefkaikedapokaa
