/- The reference's natural numbers, rows of figures to the base 10000: trim, at, Of, Against. The reference's natural numbers: Product. The reference's natural numbers: Two. The reference's natural numbers: Over of small ones, Parse. The reference's numbers: a number times ten to a power (scaled). -/
import Derived.Test.YtgihkmofpncobaaDoorNatO
import Derived.Test.YtgihkmofpncobaaDoorCalm
import Derived.Test.YtgihkmofpncobaaDoorFltQ
import Derived.Test.YtgihkmofpncobaaDoorParse
namespace Go.Proofs.YtgihkmofpncobaaDoor
open Go.RowKit
set_option linter.unusedSimpArgs false
set_option linter.unusedVariables false
attribute [local go_sem] SGives_value SGives_skip SGives_enter

/-- A figure. -/
def B4 : Nat := 10000
abbrev fv (x : Nat) : Value := .int .i64 (x : Int)
theorem ei_int : EI Tryd.prog 29 3 (.int .i64 0) 8 := ⟨Tryd.underlying29, info_parts (by kernel_rfl), rfl, rfl⟩
def okI : Value → Prop := fun u => ∃ m : Nat, u = fv m ∧ m < B4
theorem okI0 : okI (.int .i64 0) := ⟨0, rfl, by decide⟩
/-- A value is the number x, by its words. -/
def RatL (w : World) (A : Option Addr) (n c x : Nat) : Prop := ∃ l, IsF B4 x l ∧ l.length = n ∧ RT w 3 A (l.map fv) ∧ n ≤ c
def RatW (w : World) (v : Value) (x : Nat) : Prop := ∃ A n c, v = .agg #[.slice A n c] ∧ RatL w A n c x
theorem RatL.below {w w' : World} {A : Option Addr} {n c x : Nat} (h : RatL w A n c x) (hb : Below w.heap.size w w') : RatL w' A n c x := by
  obtain ⟨l, h1, h2, h3, h4⟩ := h
  exact ⟨l, h1, h2, h3.below hb, h4⟩
theorem RatW.below {w w' : World} {v : Value} {x : Nat} (h : RatW w v x) (hb : Below w.heap.size w w') : RatW w' v x := by
  obtain ⟨A, n, c, h1, h2⟩ := h
  exact ⟨A, n, c, h1, h2.below hb⟩
theorem RatW.but {w w' : World} {v : Value} {x b : Nat} {t : TypeId} {cs : Array Value} (h : RatW w v x) (hB : Blk w b t cs) (hne : 3 ≠ t) (hb : But w.heap.size b w w') : RatW w' v x := by
  obtain ⟨A, n, c, h1, l, h2, h3, h4, h5⟩ := h
  exact ⟨A, n, c, h1, l, h2, h3, h4.but hB hne hb, h5⟩
theorem RatW.set {w : World} {v : Value} {x b i : Nat} {t : TypeId} {cs : Array Value} (h : RatW w v x) (hB : Blk w b t cs) (hne : 3 ≠ t) (u : Value) : RatW (w.setCell ⟨b, i, none⟩ u) v x :=
  h.but hB hne ((But.refl _ b _).setCell (p := ⟨b, i, none⟩) (.inl rfl) u)
theorem RatW.drewN {w : World} {v : Value} {x : Nat} (h : RatW w v x) (k : Nat) : RatW (w.drewN k) v x := h.below (below_drewN (Below.refl _ _) k)
theorem RatW.nil (w : World) : RatW w (.agg #[.slice none 0 0]) 0 := ⟨none, 0, 0, rfl, [], IsF.nil _, rfl, RT.nil _ _, Nat.le_refl _⟩

def TrimP (A : Option Addr) (c : Nat) (l : List Nat) (w : World) (e : Ending) (w' : World) : Prop :=
  ∃ k, e = .returned (.agg #[.slice A k c]) ∧ k ≤ l.length ∧ IsF B4 (fval B4 l) (l.take k) ∧ Below w.heap.size w w'

set_option maxRecDepth 100000 in
theorem rtrim_any (A : Option Addr) (c : Nat) (l : List Nat) (w : World) (hr : RT w 3 A (l.map fv)) (hf : Figs B4 l) (hc : l.length ≤ c) (hn : l.length ≤ 1000000000000) :
    Calls Tryd.prog 53 #[.slice A l.length c] w (TrimP A c l w) := by
  have HR := Lib.hid (hr.below (below_new w (.cells #[.slice none 0 0] 31)))
  have HF := Lib.hid hf
  clear hr hf
  go_enter Tryd.func53, Tryd.ntmps53
  go_wp2_with fail
  go_loop [3] (fun s => ∃ k : Nat, s = .int .i64 k ∧ k ≤ l.length ∧ ∀ j, k ≤ j → l.getD j 0 = 0) (fun s => (intOf s).toNat)
  case atStart => exact ⟨l.length, rfl, Nat.le_refl _, fun j hj => by simp [List.getD, hj]⟩
  case round =>
    obtain ⟨k, rfl, hk, hz⟩ := hrel
    have HZ := Lib.hid hz
    clear hz
    cases k with
    | zero =>
      have HV := Lib.hid (IsF.of_cut HF.out (Nat.zero_le _) HZ.out (.inl rfl))
      go_wp2_with fail
      exact bodyPost_ret (v := .agg #[.slice A 0 c]) (by simp [results, Tryd.results53, go_sem]) rfl ⟨0, rfl, Nat.zero_le _, HV.out, by go_grown⟩
    | succ j =>
      obtain ⟨g, o, rfl, hl0⟩ := HR.out.cell j (by simp; omega)
      rw [List.getElem_map] at hl0
      have hlx : l.getD j 0 = l[j] := by simp [List.getD, show j < l.length by omega]
      have HLX := Lib.hid hlx
      clear hlx
      generalize l[j] = x at *
      by_cases h0 : x = 0
      · subst h0
        have HM : Hid (∀ i, j ≤ i → l.getD i 0 = 0) := fun i hi => by
          rcases Nat.lt_or_ge j i with h | h
          · exact HZ.out i h
          · obtain rfl : i = j := by omega
            exact HLX.out
        go_wp2_with fail
        go_round
        case rel => exact ⟨j, by go_num, by omega, HM.out⟩
        case measure => simp [intOf]
      · have t1 : ((x : Int) == 0) = false := by simp; omega
        have HV := Lib.hid (IsF.of_cut HF.out hk HZ.out (.inr (by simp only [Nat.add_sub_cancel]; rw [HLX.out]; exact h0)))
        clear h0
        go_wp2_with fail
        exact bodyPost_ret (v := .agg #[.slice (some ⟨g, o, none⟩) (j + 1) c]) (by simp [results, Tryd.results53, go_sem]) rfl ⟨j + 1, rfl, hk, HV.out, by go_grown⟩

/-- What trim has trim is a number. -/
theorem TrimP.rat {A : Option Addr} {c : Nat} {l : List Nat} {w w' : World} {e : Ending} (hm : TrimP A c l w e w') (hr : RT w 3 A (l.map fv)) (hc : l.length ≤ c) :
    ∃ v, e = .returned v ∧ RatW w' v (fval B4 l) ∧ Below w.heap.size w w' := by
  obtain ⟨k, rfl, hk, hf, hb⟩ := hm
  refine ⟨_, rfl, ⟨A, k, c, rfl, l.take k, hf, by simp; omega, ?_, by omega⟩, hb⟩
  have := (hr.below hb).take k
  rwa [← List.map_take] at this


set_option maxRecDepth 100000 in
theorem rat_at (v : Value) (x i : Nat) (w : World) (hv : RatW w v x) (hi : i ≤ 1000000000000) :
    Calls Tryd.prog 55 #[v, .int .i64 (i : Int)] w fun e w' => e = .returned (fv (x / B4 ^ i % B4)) ∧ Below w.heap.size w w' := by
  obtain ⟨A, n, c, rfl, l, hf, hn, hr, hc⟩ := hv
  have HR := Lib.hid (hr.below (below_new w (.cells #[.slice A n c] 31)))
  rw [← hf.get i]
  clear hr hf
  by_cases h : i < n
  · obtain ⟨g, o, rfl, hl0⟩ := HR.out.cell i (by simp; omega)
    rw [List.getElem_map] at hl0
    have hlx : l.getD i 0 = l[i] := by simp [List.getD, show i < l.length by omega]
    rw [hlx]
    clear hlx
    generalize l[i] = y at *
    have t1 : decide (i < n) = true := by simp; omega
    have t1' : decide ((i : Int) < n) = true := by simp; omega
    have q : (i : Int) < n := by omega
    go_enter Tryd.func55, Tryd.ntmps55
    go_wp2_with fail
    go_ret
    exact ⟨rfl, by go_grown⟩
  · have hlx : l.getD i 0 = 0 := by simp [List.getD, show l.length ≤ i by omega]
    rw [hlx]
    have t1 : decide (i < n) = false := by simp; omega
    have t1' : decide ((i : Int) < n) = false := by simp; omega
    go_enter Tryd.func55, Tryd.ntmps55
    go_wp2_with fail
    go_ret
    exact ⟨rfl, by go_grown⟩


/-- A number alone. -/
def RatV (x : Nat) (w : World) (e : Ending) (w' : World) : Prop := ∃ A n c, e = .returned (.agg #[.slice A n c]) ∧ RatL w' A n c x ∧ Below w.heap.size w w'
theorem RatL.w {w : World} {A : Option Addr} {n c x : Nat} (h : RatL w A n c x) : RatW w (.agg #[.slice A n c]) x := ⟨A, n, c, rfl, h⟩
theorem RatL.set {w : World} {A : Option Addr} {n c x b i : Nat} {t : TypeId} {cs : Array Value} (h : RatL w A n c x) (hB : Blk w b t cs) (hne : 3 ≠ t) (u : Value) : RatL (w.setCell ⟨b, i, none⟩ u) A n c x := by
  obtain ⟨l, h2, h3, h4, h5⟩ := h
  exact ⟨l, h2, h3, h4.but hB hne ((But.refl _ b _).setCell (p := ⟨b, i, none⟩) (.inl rfl) u), h5⟩

set_option maxRecDepth 100000 in
set_option maxHeartbeats 1000000 in
theorem rof_nat (x : Nat) (w : World) (hx : x < W64) :
    Calls Tryd.prog 15 #[wv x] w (RatV x w) := by
  have HX := Lib.hid hx
  have HK0 := Lib.hid (Blk.new w 31 #[.slice none 0 0])
  have HB0 := Lib.hid ((Below.refl _ w).alloc (Nat.le_refl _) (.cells #[.slice none 0 0] 31))
  clear hx
  go_enter Tryd.func15, Tryd.ntmps15
  go_wp2_with fail
  go_loopw [0, 3] (fun s0 s3 wr => ∃ k : Nat, s0 = wv (x / B4 ^ k) ∧ k ≤ 5 ∧ (k = 0 ∨ x / B4 ^ (k - 1) ≠ 0) ∧ OwnR wr (w.heap.size + 1) 3 okI s3 k ((lows B4 k x).map fv) ∧ Blk wr w.heap.size 31 #[.slice none 0 0] ∧ Below w.heap.size w wr) (fun s0 _ _ => (intOf s0).toNat)
  case atStart => exact ⟨0, by rw [Nat.pow_zero, Nat.div_one], by omega, .inl rfl, OwnR.nil _ _ _ _, HK0.out, HB0.out⟩
  case round =>
    obtain ⟨k, rfl, hk5, hkt, hu, hk, hb⟩ := hrel
    have HKT := Lib.hid hkt
    have HU := Lib.hid hu
    have HK := Lib.hid hk
    have HB := Lib.hid hb
    obtain ⟨A1, c1, hu', hc1⟩ := hu.shape
    subst hu'
    have hle : w.heap.size + 1 ≤ wr.heap.size := hk.lt
    have HLE := Lib.hid hle
    clear hkt hu hb hle
    by_cases h0 : x / B4 ^ k = 0
    · have hF : IsF B4 x (lows B4 k x) := by
        have hlt : x < B4 ^ k := by
          rcases Nat.div_eq_zero_iff.1 h0 with h | h
          · exact absurd h (Nat.pos_iff_ne_zero.1 (Nat.pow_pos (by decide)))
          · exact h
        refine ⟨lows_figs _ _ _ (by decide), by rw [fval_lows, Nat.mod_eq_of_lt hlt], fun i hi => ?_⟩
        rw [lows_length] at hi
        have hg := lows_get B4 k x i (by omega)
        rw [List.getD_eq_getElem?_getD, hg]
        rcases HKT.out with h | h
        · omega
        · rw [show k - 1 = i by omega] at h
          have hl : x / B4 ^ i < B4 := by
            rw [Nat.div_lt_iff_lt_mul (Nat.pow_pos (by decide)), Nat.mul_comm, ← Nat.pow_succ, show i.succ = k by omega]
            exact hlt
          simp only [Option.getD_some]
          rw [Nat.mod_eq_of_lt hl]
          exact h
      have HF := Lib.hid hF
      rw [h0]
      have e0 : wv 0 = .int .u64 0 := rfl
      rw [e0]
      clear hF h0 e0
      obtain ⟨c0, f0⟩ : wr.cell? ⟨w.heap.size, 0, none⟩ = some (.slice none 0 0) ∧ wr.frozen? ⟨w.heap.size, 0, none⟩ = false := ⟨hk.cell 0, hk.frozen 0⟩
      clear hk
      go_wp2_with fail
      have hp := HK.out.put (i := 0) (by simp) (.slice A1 k c1)
      have hR : RatL wr A1 k c1 x := ⟨_, HF.out, lows_length _ _ _, RT.of_own HU.out, hc1⟩
      exact bodyPost_ret (v := .agg #[.slice A1 k c1]) (by simp [results, Tryd.results15, go_sem, hp]) rfl ⟨A1, k, c1, rfl, hR.set HK.out (by decide) _, HB.out.setCell (p := ⟨w.heap.size, 0, none⟩) (Nat.le_refl _) _⟩
    · have hy : 0 < x / B4 ^ k := Nat.pos_of_ne_zero h0
      have hk4 : k ≤ 4 := by
        rcases Nat.lt_or_ge k 5 with h | h
        · omega
        · obtain rfl : k = 5 := by omega
          have := HX.out
          have : x / B4 ^ 5 = 0 := Nat.div_eq_of_lt (by unfold W64 at this; unfold B4; omega)
          omega
      have hyl : x / B4 ^ k < W64 := Nat.lt_of_le_of_lt (Nat.div_le_self _ _) HX.out
      have hsn := lows_snoc B4 k x
      have hdv : x / B4 ^ (k + 1) = x / B4 ^ k / 10000 := by rw [Nat.pow_succ, ← Nat.div_div_eq_div_mul]; rfl
      have HDV := Lib.hid hdv
      have HNE := Lib.hid (show k + 1 = 0 ∨ x / B4 ^ (k + 1 - 1) ≠ 0 from .inr (by rw [Nat.add_sub_cancel]; exact h0))
      have hsn : lows B4 (k + 1) x = lows B4 k x ++ [x / B4 ^ k % 10000] := hsn
      have HSN := Lib.hid hsn
      generalize x / B4 ^ k = y at *
      have t1 : decide ((0 : Int) < (y : Int)) = true := decide_eq_true (by omega)
      have t1' : decide (0 < y) = true := decide_eq_true hy
      have e1 : (y : Int) % 10000 = ((y % 10000 : Nat) : Int) := by omega
      have e2 : Int.tmod (y : Int) 10000 = ((y % 10000 : Nat) : Int) := by rw [Int.tmod_eq_emod_of_nonneg (by omega)]; omega
      have e3 : (y : Int) / 10000 = ((y / 10000 : Nat) : Int) := by omega
      have e4 : Int.tdiv (y : Int) 10000 = ((y / 10000 : Nat) : Int) := by rw [Int.tdiv_eq_ediv_of_nonneg (by omega)]; omega
      have hm : y % 10000 < 10000 := Nat.mod_lt _ (by decide)
      have e5 : IntKind.i64.wrap ((y % 10000 : Nat) : Int) = ((y % 10000 : Nat) : Int) := IntWalk.i64_in _ (by omega)
      have HQ := Lib.hid (show y / 10000 < y by omega)
      have hy64 : (y : Int) ≤ 18446744073709551615 := by unfold W64 at hyl; omega
      generalize y % 10000 = d at *
      generalize y / 10000 = q at *
      clear h0 hy hyl hsn hdv hm hk
      go_wp2_with (at_builtin; refine wpList_app ei_int okI0 rfl (.tmp 6) (.tmp 10) rfl (w.heap.size + 1) _ _ _ rfl (HU.out.below (below_new _ _)) _ _ _ _ _ rfl (RV.fresh wr 3 [fv d]) (fun u hu => by simp at hu; subst hu; rfl) (show k + 1 ≤ _ by omega) (show (k + 1) * 8 ≤ _ by omega) (by have := HLE.out; simp; omega) ?_; intro A3 c3 w3 hu3 hg3 ha3)
      go_roundw
      case rel => exact ⟨k + 1, by rw [HDV.out], by omega, HNE.out, by rw [HSN.out, List.map_append]; exact hu3, (HK.out.alloc _).grown hg3 (fun h => HU.out.apart HK.out (by decide) h.symm), (HB.out.alloc (by have := HLE.out; omega) _).grown hg3 (by have := HLE.out; simp; omega) (fun k hk => by have := (HU.out.lt k hk).1; omega)⟩
      case measure => have := HQ.out; simp [intOf]; omega

theorem rcmp_step (x y : Nat) (j : Nat) (h : x / B4 ^ (j + 1) = y / B4 ^ (j + 1)) : (x / B4 ^ j = y / B4 ^ j ↔ x / B4 ^ j % B4 = y / B4 ^ j % B4) ∧ (x / B4 ^ j % B4 < y / B4 ^ j % B4 → x < y) ∧ (y / B4 ^ j % B4 < x / B4 ^ j % B4 → y < x) := by
  have e : ∀ z, z / B4 ^ j = B4 * (z / B4 ^ (j + 1)) + z / B4 ^ j % B4 := fun z => by
    rw [Nat.pow_succ, ← Nat.div_div_eq_div_mul, Nat.div_add_mod]
  have ex := e x
  have ey := e y
  rw [h] at ex
  refine ⟨⟨fun h1 => by rw [h1], fun h1 => by rw [ex, ey, h1]⟩, fun h1 => ?_, fun h1 => ?_⟩
  · have h2 : x / B4 ^ j < y / B4 ^ j := by rw [ex, ey]; omega
    exact Nat.lt_of_not_le fun h3 => Nat.not_le_of_lt h2 (Nat.div_le_div_right h3)
  · have h2 : y / B4 ^ j < x / B4 ^ j := by rw [ex, ey]; omega
    exact Nat.lt_of_not_le fun h3 => Nat.not_le_of_lt h2 (Nat.div_le_div_right h3)
theorem rlen_lt {x y : Nat} {l m : List Nat} (h : IsF B4 x l) (k : IsF B4 y m) (hl : l.length < m.length) : x < y := by
  have h1 := h.lt
  have h2 := k.ge (m.length - 1) (by omega)
  exact Nat.lt_of_lt_of_le h1 (Nat.le_trans (Nat.pow_le_pow_right (by decide) (by omega)) h2)

set_option maxRecDepth 100000 in
set_option maxHeartbeats 1000000 in
theorem ragainst_nat (v u : Value) (x y : Nat) (w : World) (hv : RatW w v x) (hu : RatW w u y) (hx : x < B4 ^ 1000000) (hy : y < B4 ^ 1000000) :
    Calls Tryd.prog 26 #[v, u] w fun e w' => e = .returned (.int .i64 (cmpI x y)) ∧ Below w.heap.size w w' := by
  obtain ⟨A, n, c, rfl, l, hf, rfl, hr, hc⟩ := hv
  obtain ⟨B, m, d, rfl, k, kf, rfl, kr, kc⟩ := hu
  have hln := hf.len_le (by decide) hx
  have hkn := kf.len_le (by decide) hy
  have hnI : ((l.length : Nat) : Int) ≤ 1000000 := by omega
  have hmI : ((k.length : Nat) : Int) ≤ 1000000 := by omega
  have HF := Lib.hid hf
  have KF := Lib.hid kf
  have hb0 : Below w.heap.size w ((w.alloc (.cells #[.slice A l.length c] 31)).alloc (.cells #[.slice B k.length d] 31)) := by go_grown
  have HR := Lib.hid (hr.below hb0)
  have KR := Lib.hid (kr.below hb0)
  have HB0 := Lib.hid hb0
  have HKA := Lib.hid ((Blk.new w 31 #[.slice A l.length c]).alloc (.cells #[.slice B k.length d] 31))
  have HKB := Lib.hid (show Blk ((w.alloc (.cells #[.slice A l.length c] 31)).alloc (.cells #[.slice B k.length d] 31)) (w.heap.size + 1) 31 #[.slice B k.length d] by
    have := Blk.new (w.alloc (.cells #[.slice A l.length c] 31)) 31 #[.slice B k.length d]
    rwa [World.size_alloc] at this)
  clear hf kf hr kr hc kc hb0 hx hy hln hkn
  rcases Nat.lt_trichotomy l.length k.length with hlt | heq | hgt
  · have HC := Lib.hid (cmpI_lt (rlen_lt HF.out KF.out hlt))
    have t1 : (((l.length : Nat) : Int) != ((k.length : Nat) : Int)) = true := by rw [bne_iff_ne]; omega
    have t1' : (l.length != k.length) = true := by rw [bne_iff_ne]; omega
    have t2 : decide (((l.length : Nat) : Int) < ((k.length : Nat) : Int)) = true := decide_eq_true (by omega)
    have t2' : decide (l.length < k.length) = true := decide_eq_true (by omega)
    clear hlt
    go_enter Tryd.func26, Tryd.ntmps26
    go_wp2_with fail
    go_ret
    exact ⟨by rw [HC.out] <;> rfl, HB0.out⟩
  · obtain ⟨n, hn⟩ : ∃ n, l.length = n := ⟨_, rfl⟩
    have hkn : k.length = n := by omega
    have HLN := Lib.hid hn
    have HKN := Lib.hid hkn
    rw [hn] at HKA HKB HR HB0 KR hnI ⊢
    rw [hkn] at HKA HKB HB0 KR HR ⊢
    have t1 : (((n : Nat) : Int) != ((n : Nat) : Int)) = false := by simp
    have t1' : (n != n) = false := by simp
    have H0 : Hid (x / B4 ^ n = y / B4 ^ n) := Lib.hid (by
      rw [Nat.div_eq_of_lt (by have := HF.out.lt; rwa [hn] at this), Nat.div_eq_of_lt (by have := KF.out.lt; rwa [hkn] at this)])
    clear heq hn hkn hmI
    generalize hW0 : ((w.alloc (.cells #[.slice A n c] 31)).alloc (.cells #[.slice B n d] 31)) = W0 at *
    obtain ⟨ca, fa⟩ : W0.cell? ⟨w.heap.size, 0, none⟩ = some (.slice A n c) ∧ W0.frozen? ⟨w.heap.size, 0, none⟩ = false := ⟨HKA.out.cell 0, HKA.out.frozen 0⟩
    obtain ⟨cb, fb⟩ : W0.cell? ⟨w.heap.size + 1, 0, none⟩ = some (.slice B n d) ∧ W0.frozen? ⟨w.heap.size + 1, 0, none⟩ = false := ⟨HKB.out.cell 0, HKB.out.frozen 0⟩
    go_enter Tryd.func26, Tryd.ntmps26
    go_wp2_with fail
    clear ca cb fa fb hW0
    go_loopw [5] (fun s5 wr => ∃ j : Nat, s5 = .int .i64 ((j : Int) - 1) ∧ j ≤ n ∧ x / B4 ^ j = y / B4 ^ j ∧ Below W0.heap.size W0 wr) (fun s _ => (intOf s + 1).toNat)
    case atStart => exact ⟨n, rfl, Nat.le_refl _, H0.out, Below.refl _ _⟩
    case round =>
      obtain ⟨j, rfl, hj, hxy, hb⟩ := hrel
      have HXY := Lib.hid hxy
      have HB := Lib.hid hb
      have hKA := HKA.out.below hb HKA.out.lt
      have hKB := HKB.out.below hb HKB.out.lt
      obtain ⟨ca, fa⟩ : wr.cell? ⟨w.heap.size, 0, none⟩ = some (.slice A n c) ∧ wr.frozen? ⟨w.heap.size, 0, none⟩ = false := ⟨hKA.cell 0, hKA.frozen 0⟩
      obtain ⟨cb, fb⟩ : wr.cell? ⟨w.heap.size + 1, 0, none⟩ = some (.slice B n d) ∧ wr.frozen? ⟨w.heap.size + 1, 0, none⟩ = false := ⟨hKB.cell 0, hKB.frozen 0⟩
      have HBW := Lib.hid (keepb HB0.out hb)
      clear hxy hb hKA hKB
      cases j with
      | zero =>
        have HC := Lib.hid (show cmpI x y = 0 by have := HXY.out; rw [Nat.pow_zero, Nat.div_one, Nat.div_one] at this; rw [this, cmpI_eq])
        have e9 : (((0 : Nat)) : Int) - 1 = -1 := rfl
        rw [e9]
        clear e9
        go_wp2_with fail
        go_ret
        exact ⟨by rw [HC.out] <;> rfl, HBW.out⟩
      | succ i =>
        have e9 : (((i + 1 : Nat)) : Int) - 1 = ((i : Nat) : Int) := by omega
        rw [e9]
        clear e9
        have hil : i < l.length := by rw [HLN.out]; omega
        have hik : i < k.length := by rw [HKN.out]; omega
        obtain ⟨g1, o1, hA, hl0⟩ := (HR.out.below HB.out).cell i (by simpa using hil)
        obtain ⟨g2, o2, hB', hk0⟩ := (KR.out.below HB.out).cell i (by simpa using hik)
        subst hA hB'
        rw [List.getElem_map] at hl0 hk0
        have hlv : l[i] = x / B4 ^ i % B4 := by have := HF.out.get i; rwa [show l.getD i 0 = l[i] by simp [List.getD, hil]] at this
        have hkv : k[i] = y / B4 ^ i % B4 := by have := KF.out.get i; rwa [show k.getD i 0 = k[i] by simp [List.getD, hik]] at this
        have HST := Lib.hid (rcmp_step x y i HXY.out)
        rw [hlv] at hl0
        rw [hkv] at hk0
        generalize x / B4 ^ i % B4 = p at *
        generalize y / B4 ^ i % B4 = q at *
        have hi0 : (0 : Int) ≤ (i : Int) := by omega
        have hin : (i : Int) < (n : Int) := by omega
        have t5 : decide ((0 : Int) ≤ (i : Int)) = true := decide_eq_true hi0
        have HIN := Lib.hid hj
        clear hil hik hlv hkv hj
        rcases Nat.lt_trichotomy p q with hp | hp | hp
        · have q1 : decide ((p : Int) < (q : Int)) = true := decide_eq_true (by omega)
          have q1' : decide (p < q) = true := decide_eq_true hp
          have HC := Lib.hid (show cmpI x y = -1 from cmpI_lt (HST.out.2.1 hp))
          clear hp
          go_upto_region 8 with fail
          go_quiet (fail)
          go_wp2_with fail
          go_ret
          exact ⟨by rw [HC.out] <;> rfl, below_drewN HBW.out _⟩
        · subst hp
          have q1 : decide ((p : Int) < (p : Int)) = false := by simp
          have q1' : decide (p < p) = false := by simp
          have HE := Lib.hid (HST.out.1.2 rfl)
          go_upto_region 8 with fail
          go_quiet (fail)
          go_upto_region 10 with fail
          go_quiet (fail)
          go_wp2_with fail
          go_roundw
          case rel => exact ⟨i, rfl, by have := HIN.out; omega, HE.out, below_drewN HB.out _⟩
          case measure => simp [intOf]
        · have q1 : decide ((p : Int) < (q : Int)) = false := decide_eq_false (by omega)
          have q1' : decide (p < q) = false := decide_eq_false (by omega)
          have q2 : decide ((q : Int) < (p : Int)) = true := decide_eq_true (by omega)
          have q2' : decide (q < p) = true := decide_eq_true hp
          have HC := Lib.hid (show cmpI x y = 1 from cmpI_gt (HST.out.2.2 hp))
          clear hp
          go_upto_region 8 with fail
          go_quiet (fail)
          go_upto_region 10 with fail
          go_quiet (fail)
          go_wp2_with fail
          go_ret
          exact ⟨by rw [HC.out] <;> rfl, below_drewN (below_drewN HBW.out _) _⟩
  · have HC := Lib.hid (cmpI_gt (rlen_lt KF.out HF.out hgt))
    have t1 : (((l.length : Nat) : Int) != ((k.length : Nat) : Int)) = true := by rw [bne_iff_ne]; omega
    have t1' : (l.length != k.length) = true := by rw [bne_iff_ne]; omega
    have t2 : decide (((l.length : Nat) : Int) < ((k.length : Nat) : Int)) = false := decide_eq_false (by omega)
    have t2' : decide (l.length < k.length) = false := decide_eq_false (by omega)
    clear hgt
    go_enter Tryd.func26, Tryd.ntmps26
    go_wp2_with fail
    go_ret
    exact ⟨by rw [HC.out] <;> rfl, HB0.out⟩
end Go.Proofs.YtgihkmofpncobaaDoor

namespace Go.Proofs.YtgihkmofpncobaaDoor
open Go.RowKit
set_option linter.unusedSimpArgs false
set_option linter.unusedVariables false
attribute [local go_sem] SGives_value SGives_skip SGives_enter

theorem RatL.fig {w : World} {A : Option Addr} {n c x j : Nat} (h : RatL w A n c x) (hj : j < n) : ∃ g o, A = some ⟨g, o, none⟩ ∧ w.cell? ⟨g, o + j, none⟩ = some (fv (x / B4 ^ j % B4)) := by
  obtain ⟨l, hf, rfl, hr, _⟩ := h
  obtain ⟨g, o, hA, hc⟩ := hr.cell j (by simpa using hj)
  refine ⟨g, o, hA, ?_⟩
  rw [hc, List.getElem_map, ← hf.get j]
  simp [List.getD, hj]
theorem RatL.figs {w : World} {g o : Nat} {n c x j : Nat} (h : RatL w (some ⟨g, o, none⟩) n c x) (hj : j < n) : w.cell? ⟨g, o + j, none⟩ = some (fv (x / B4 ^ j % B4)) := by
  obtain ⟨g', o', hA, hc⟩ := h.fig hj
  injection hA with hA
  injection hA with h1 h2
  subst h1 h2
  exact hc
theorem RatL.lt {w : World} {A : Option Addr} {n c x : Nat} (h : RatL w A n c x) : x < B4 ^ n := by obtain ⟨l, h1, rfl, _⟩ := h; exact h1.lt
theorem RatL.len {w : World} {A : Option Addr} {n c x : Nat} (h : RatL w A n c x) {k : Nat} (hx : x < B4 ^ k) : n ≤ k := by obtain ⟨l, h1, rfl, _⟩ := h; exact h1.len_le (by decide) hx
theorem zs_int (n : Nat) : (zs (.int .i64 0) n).toArray = ((List.replicate n 0).map fv).toArray := by unfold zs; rw [List.map_replicate]; rfl
theorem set_fv (M : List Nat) (t v : Nat) : ((M.map fv).toArray.setIfInBounds t (fv v)) = ((M.set t v).map fv).toArray := by rw [List.setIfInBounds_toArray, List.map_set]
theorem blk_fv {W : World} {g t : Nat} {M : List Nat} (h : Blk W g 3 (M.map fv).toArray) (ht : t < M.length) : W.cell? ⟨g, t, none⟩ = some (fv (M.getD t 0)) := by
  rw [h.cell, List.getElem?_toArray, List.getElem?_map, List.getElem?_eq_getElem ht]
  simp [List.getD, ht]
/-- A step of the product: the carry goes on. -/
theorem rmul_step {o c X Y N' N P D S : Nat} (hS : S = o + X * Y + c) (hfs : N' + P * o = N + P * (S % B4)) (hv : N + P * c = D) : N' + P * B4 * (S / B4) = D + P * (X * Y) := by
  have e := Nat.div_add_mod S B4
  have h1 : P * S = P * B4 * (S / B4) + P * (S % B4) := by
    rw [Nat.mul_assoc, ← Nat.mul_add, e]
  have h2 : P * S = P * o + P * (X * Y) + P * c := by rw [hS, Nat.mul_add, Nat.mul_add]
  omega

set_option maxRecDepth 100000 in
set_option maxHeartbeats 4000000 in
theorem rproduct_nat (v u : Value) (x y : Nat) (w : World) (hv : RatW w v x) (hu : RatW w u y) (hx : x < B4 ^ 10000) (hy : y < B4 ^ 10000) :
    Calls Tryd.prog 29 #[v, u] w (RatV (x * y) w) := by
  obtain ⟨A, n, c, rfl, hl⟩ := hv
  obtain ⟨B, m, d, rfl, hk⟩ := hu
  have HL := Lib.hid hl
  have HK := Lib.hid hk
  have hn1 := hl.len hx
  have hm1 := hk.len hy
  have HXN := Lib.hid (Nat.mod_eq_of_lt hl.lt)
  have HYL := Lib.hid hk.lt
  have hmk := fun W => run_mk ei_int .i64 .i64 (n + m + 1) (n + m + 1) (Nat.le_refl _) (by omega) (by omega) W
  have e2 : ((n + m + 1 : Nat) : Int) = (n : Int) + (m : Int) + 1 := by omega
  rw [e2] at hmk
  have hni : (n : Int) ≤ 10000 := by omega
  have hmi : (m : Int) ≤ 10000 := by omega
  clear hl hk hx hy e2
  go_enter Tryd.func29, Tryd.ntmps29
  go_wp2_with fail
  obtain ⟨W0, hW0⟩ : ∃ W0, W0 = ((w.alloc (.cells #[.slice A n c] 31)).alloc (.cells #[.slice B m d] 31)).alloc (.cells #[.slice none 0 0] 31) := ⟨_, rfl⟩
  have hb0 : Below w.heap.size w W0 := by rw [hW0]; go_grown
  have hsz : W0.heap.size = w.heap.size + 1 + 1 + 1 := by rw [hW0]; simp
  have ca : W0.cell? ⟨w.heap.size, 0, none⟩ = some (.slice A n c) := by rw [hW0]; exact (boxes3 w _ _ _ _).1
  have cb : W0.cell? ⟨w.heap.size + 1, 0, none⟩ = some (.slice B m d) := by rw [hW0]; exact (boxes3 w _ _ _ _).2
  have hbk : Blk W0 (w.heap.size + 2) 31 #[.slice none 0 0] := by
    have := Blk.new ((w.alloc (.cells #[.slice A n c] 31)).alloc (.cells #[.slice B m d] 31)) 31 #[.slice none 0 0]
    simp only [World.size_alloc] at this
    rw [hW0]; exact this
  rw [← hW0]
  have HB0 := Lib.hid hb0
  have HSZ := Lib.hid hsz
  have HA := Lib.hid ca
  have HB := Lib.hid cb
  have HBK := Lib.hid hbk
  clear hW0 hb0 hsz ca cb hbk
  obtain ⟨g0, hg0⟩ : ∃ g0, g0 = W0.heap.size := ⟨_, rfl⟩
  have hg3 : w.heap.size + 1 + 1 + 1 = g0 := by rw [hg0, HSZ.out]
  have HBO := Lib.hid (show Blk (W0.alloc (.cells (zs (.int .i64 0) (n + m + 1)).toArray 3)) g0 3 ((List.replicate (n + m + 1) 0).map fv).toArray by rw [hg0, ← zs_int]; exact Blk.new _ _ _)
  have HG0 := Lib.hid hg0
  have HG3 := Lib.hid hg3
  simp only [hg3]
  clear hg0
  go_loopw [6] (fun s6 wr => ∃ (j : Nat) (M : List Nat), s6 = .int .i64 j ∧ j ≤ n ∧ M.length = n + m + 1 ∧ Figs B4 M ∧ fval B4 M = x % B4 ^ j * y ∧ Blk wr g0 3 (M.map fv).toArray ∧ Below W0.heap.size W0 wr) (fun s _ => n - (intOf s).toNat)
  case atStart => exact ⟨0, List.replicate (n + m + 1) 0, rfl, by omega, by simp, fun d hd => by rw [(List.mem_replicate.1 hd).2]; decide, by rw [fval_zero (fun d hd => (List.mem_replicate.1 hd).2)]; simp [Nat.mod_one], HBO.out, below_new _ _⟩
  case round =>
    obtain ⟨j, M, rfl, hj, hml, hmf, hmv, hblk, hbel⟩ := hrel
    obtain ⟨wo, rfl⟩ : ∃ wo : World, wo = wr := ⟨_, rfl⟩
    have HML := Lib.hid hml
    have HMF := Lib.hid hmf
    have HMV := Lib.hid hmv
    have HBL := Lib.hid hblk
    have HBE := Lib.hid hbel
    have HBWo : Hid (Below w.heap.size w wo) := Lib.hid (keepb HB0.out hbel)
    have ca := keepc hbel (by rw [HSZ.out]; omega) HA.out
    clear hml hmf hmv hblk hbel
    by_cases hlt : j < n
    · have t1 : decide ((j : Int) < n) = true := decide_eq_true (by omega)
      have t1' : decide (j < n) = true := decide_eq_true hlt
      have hlx : (j : Int) < n := by omega
      have cb := keepc HBE.out (by rw [HSZ.out]; omega) HB.out
      have HJL := Lib.hid hlt
      clear hlt
      have HXM : Hid (x % B4 ^ (j + 1) = x % B4 ^ j + B4 ^ j * (x / B4 ^ j % B4)) := Lib.hid Nat.mod_pow_succ
      have HXL := Lib.hid (show x % B4 ^ (j + 1) < B4 ^ (j + 1) from Nat.mod_lt _ (Nat.pow_pos (by decide)))
      obtain ⟨g1, o1, hA1, _⟩ := (HL.out.below HBWo.out).fig HJL.out
      subst hA1
      have hX : x / B4 ^ j % B4 < B4 := Nat.mod_lt _ (by decide)
      have HX := Lib.hid hX
      obtain ⟨X, hXX⟩ : ∃ X, x / B4 ^ j % B4 = X := ⟨_, rfl⟩
      have HXX := Lib.hid hXX
      rw [hXX] at HX HXM
      clear hX hXX
      go_wp2_with fail
      go_loopw [7, 8] (fun s7 s8 wr => ∃ (k cy : Nat) (N : List Nat), s7 = .int .i64 cy ∧ s8 = .int .i64 k ∧ cy < B4 ∧ k ≤ m + 1 ∧ N.length = n + m + 1 ∧ Figs B4 N ∧ fval B4 N + B4 ^ (j + k) * cy = x % B4 ^ j * y + B4 ^ j * X * (y % B4 ^ k) ∧ Blk wr g0 3 (N.map fv).toArray ∧ Below W0.heap.size W0 wr) (fun _ s _ => m + 1 - (intOf s).toNat)
      case atStart => exact ⟨0, 0, M, rfl, rfl, by decide, by omega, HML.out, HMF.out, by rw [HMV.out, Nat.mul_zero, Nat.pow_zero, Nat.mod_one, Nat.mul_zero], HBL.out, HBE.out⟩
      case round =>
        obtain ⟨k, cy, N, rfl, rfl, hcy, hk, hnl, hnf, hnv, hblk, hbel⟩ := hrel
        obtain ⟨wi, rfl⟩ : ∃ wi : World, wi = wr := ⟨_, rfl⟩
        have HCY := Lib.hid hcy
        have HNL := Lib.hid hnl
        have HNF := Lib.hid hnf
        have HNV := Lib.hid hnv
        have HBN := Lib.hid hblk
        have HBEN := Lib.hid hbel
        have HBWi : Hid (Below w.heap.size w wi) := Lib.hid (keepb HB0.out hbel)
        have HCA := Lib.hid (keepc hbel (by rw [HSZ.out]; omega) HA.out)
        have HCB := Lib.hid (keepc hbel (by rw [HSZ.out]; omega) HB.out)
        have cb := HCB.out
        have hcb' : (cy : Int) < 10000 := by unfold B4 at hcy; omega
        -- while the carry goes on, the place lies within the row
        have hin : 0 < cy → k ≤ m := by
          intro h0
          have h1 : B4 ^ (j + k) ≤ B4 ^ (j + k) * cy := Nat.le_mul_of_pos_right _ h0
          have h2 : x % B4 ^ j * y + B4 ^ j * X * (y % B4 ^ k) ≤ x % B4 ^ (j + 1) * y := by
            rw [HXM.out, Nat.add_mul]
            exact Nat.add_le_add_left (Nat.mul_le_mul_left _ (Nat.mod_le _ _)) _
          have h3 : x % B4 ^ (j + 1) * y < B4 ^ (j + 1) * B4 ^ m := Nat.mul_lt_mul'' HXL.out HYL.out
          rw [← Nat.pow_add] at h3
          have h4 : B4 ^ (j + k) < B4 ^ (j + 1 + m) := by omega
          have := pow_lt_inj (q := B4) (by decide) h4
          omega
        clear hcy hnl hnf hnv hblk hbel
        by_cases hgo : k < m ∨ 0 < cy
        · have hkm : k ≤ m := by
            rcases hgo with h | h
            · omega
            · exact hin h
          have HKM := Lib.hid hkm
          have hto : j + k < n + m + 1 := by have := HJL.out; omega
          obtain ⟨t, ht⟩ : ∃ t, j + k = t := ⟨_, rfl⟩
          have HT := Lib.hid ht
          have HNVt := Lib.hid HNV.out
          rw [ht] at HNVt hto
          have hcO := blk_fv HBN.out (t := t) (by rw [HNL.out]; exact hto)
          have hfO := HBN.out.frozen t
          have hO : N.getD t 0 < B4 := HNF.out.get (by decide)
          have HFS := Lib.hid (fun v => fval_set B4 N t v (by rw [HNL.out]; exact hto))
          have HYMk : Hid (y % B4 ^ (k + 1) = y % B4 ^ k + B4 ^ k * (y / B4 ^ k % B4)) := Lib.hid Nat.mod_pow_succ
          have hY : y / B4 ^ k % B4 < B4 := Nat.mod_lt _ (by decide)
          have HAT := Lib.hid (fun W (h : RatL W B m d y) => rat_at _ y k W h.w (by omega))
          have hXb := HX.out
          generalize y / B4 ^ k % B4 = Y at *
          generalize N.getD t 0 = o at *
          have hXY : X * Y ≤ 9999 * 9999 := Nat.mul_le_mul (by unfold B4 at hXb; omega) (by unfold B4 at hY; omega)
          obtain ⟨P, hP⟩ : ∃ P, X * Y = P := ⟨_, rfl⟩
          obtain ⟨S2, hS2⟩ : ∃ S2, o + P + cy = S2 := ⟨_, rfl⟩
          have HS2 := Lib.hid (show S2 = o + X * Y + cy by rw [hP, hS2])
          have o9 : o < 10000 := hO
          have c9 : cy < 10000 := by omega
          have k1 : IntKind.i64.wrap ((X : Int) * (Y : Int)) = (P : Int) := by
            rw [show (X : Int) * (Y : Int) = (P : Int) by rw [← hP, Int.natCast_mul]]
            exact IntWalk.i64_in _ (by omega)
          obtain ⟨S1, hS1⟩ : ∃ S1, o + P = S1 := ⟨_, rfl⟩
          have k2 : IntKind.i64.wrap ((o : Int) + (P : Int)) = (S1 : Int) := by rw [IntWalk.i64_in _ (by omega)]; omega
          have k3 : IntKind.i64.wrap ((S1 : Int) + (cy : Int)) = (S2 : Int) := by rw [IntWalk.i64_in _ (by omega)]; omega
          have k4 : IntKind.i64.wrap ((j : Int) + (k : Int)) = (t : Int) := by rw [IntWalk.i64_in _ (by omega)]; omega
          have hS2b : S2 < B4 * B4 := by unfold B4; omega
          have HSB := Lib.hid (show S2 / B4 < B4 by rw [Nat.div_lt_iff_lt_mul (by decide)]; exact hS2b)
          have HSM := Lib.hid (show S2 % B4 < B4 from Nat.mod_lt _ (by decide))
          have e1 : (S2 : Int) % 10000 = ((S2 % B4 : Nat) : Int) := by unfold B4; omega
          have e2 : Int.tmod (S2 : Int) 10000 = ((S2 % B4 : Nat) : Int) := by rw [Int.tmod_eq_emod_of_nonneg (by omega)]; exact e1
          have e3 : (S2 : Int) / 10000 = ((S2 / B4 : Nat) : Int) := by unfold B4; omega
          have e4 : Int.tdiv (S2 : Int) 10000 = ((S2 / B4 : Nat) : Int) := by rw [Int.tdiv_eq_ediv_of_nonneg (by omega)]; exact e3
          have hS2I : (S2 : Int) ≤ 1000000000 := by omega
          have HGO := Lib.hid hgo
          have htI : (t : Int) < (n : Int) + (m : Int) + 1 := by omega
          have hsumI : (j : Int) + (k : Int) = (t : Int) := by omega
          have HSI := Lib.hid hsumI
          have HCO := Lib.hid hcO
          have HFO := Lib.hid hfO
          have K1 := Lib.hid k1
          have K2 := Lib.hid k2
          have K3 := Lib.hid k3
          have K4 := Lib.hid k4
          have E1 := Lib.hid e1
          have E2 := Lib.hid e2
          have E3 := Lib.hid e3
          have E4 := Lib.hid e4
          have HTO := Lib.hid hto
          clear hcO hfO hO hY hXb hXY hP hS2 o9 c9 k1 hS1 k2 k3 k4 hS2b e1 e2 e3 e4 hkm hto hin ht hsumI
          have hz1 : w.heap.size < wi.heap.size := Nat.lt_of_lt_of_le (by rw [HSZ.out]; omega) HBEN.out.size
          have hz2 : w.heap.size + 1 < wi.heap.size := Nat.lt_of_lt_of_le (by rw [HSZ.out]; omega) HBEN.out.size
          have hz3 : g0 < wi.heap.size := HBN.out.lt
          have HZ1 := Lib.hid hz1
          have HZ2 := Lib.hid hz2
          have HZ3 := Lib.hid hz3
          clear hz1 hz2 hz3
          have hor : (decide ((k : Int) < (m : Int)) = true ∧ decide (k < m) = true) ∨ (decide ((k : Int) < (m : Int)) = false ∧ decide (k < m) = false ∧ decide ((0 : Int) < (cy : Int)) = true ∧ decide (0 < cy) = true) := by
            by_cases h : k < m
            · exact .inl ⟨decide_eq_true (by omega), decide_eq_true h⟩
            · exact .inr ⟨decide_eq_false (by omega), decide_eq_false h, decide_eq_true (by omega), decide_eq_true (by omega)⟩
          clear hgo
          go_upto_region 7 with fail
          go_cut [34] from 26 to 35 (fun s34 wx => s34 = .bool true ∧ wi = wx)
          case first =>
            rcases hor with ⟨u1, u2⟩ | ⟨u1, u2, u3, u4⟩
            all_goals
              go_wp2_with fail
              go_meet
              exact ⟨rfl, rfl⟩
          case rest =>
          obtain ⟨rfl, hwx⟩ := hcut
          subst hwx
          clear hor cb
          go_upto_region 9 with fail
          have k1 := K1.out
          have k2 := K2.out
          have k3 := K3.out
          have k4 := K4.out
          have hto := HTO.out
          obtain ⟨S, SD⟩ : ∃ S : World → Prop, Go.RowKit.Hid (∀ w' : World, S w' ↔ Below wi.heap.size wi w') := ⟨_, Lib.hid (fun _ => Iff.rfl)⟩
          refine wp_region_sure (S := S) (by kernel_rfl) (by kernel_rfl) ((SD.out _).2 (Below.refl _ _).drew) ?_
          repeat
            (first
              | (refine SureL.no (by rfl) ?_; simp only [Act.put, List.setIfInBounds_toArray, List.set_cons_zero, List.set_cons_succ])
              | (refine' SureL.yes (by rfl) (fun wS hS => ?_) ?_
                 rotate_left
                 · have hBS := (SD.out _).1 hS
                   have ca := keepc hBS HZ1.out HCA.out
                   have cb := keepc hBS HZ2.out HCB.out
                   have cO := keepc hBS HZ3.out HCO.out
                   have cX := (HL.out.below (keepb HBWi.out hBS)).figs HJL.out
                   rw [HXX.out] at cX
                   go_simp
                   first
                     | exact ⟨rfl, hS⟩
                     | (with_reducible refine (HAT.out _ (HK.out.below (keepb HBWi.out hBS))).mono ?_; rintro e w' ⟨rfl, hbn⟩; exact ⟨rfl, (SD.out _).2 (keepb hBS hbn)⟩)
                 simp only [Act.put, List.setIfInBounds_toArray, List.set_cons_zero, List.set_cons_succ]))
          refine SureL.nil ?_
          intro wE hE
          have hBE := (SD.out _).1 hE
          have HBEE := Lib.hid hBE
          have HNE := Lib.hid (HBN.out.below hBE HBN.out.lt)
          have cO := keepc hBE HZ3.out HCO.out
          have fO := keepf hBE HZ3.out HFO.out
          have e1 := E1.out
          have e2 := E2.out
          have e3 := E3.out
          have e4 := E4.out
          have HB2 := Lib.hid (show Blk (wE.setCell ⟨g0, t, none⟩ (fv (S2 % B4))) g0 3 ((N.set t (S2 % B4)).map fv).toArray by rw [← set_fv]; exact HNE.out.set1 t (fv (S2 % B4)))
          have hST := rmul_step HS2.out (HFS.out (S2 % B4)) HNVt.out
          have HST := Lib.hid hST
          clear hBE hE SD S hST k1 k2 k3
          generalize S2 % B4 = r at *
          generalize S2 / B4 = q at *
          go_wp2_with fail
          go_roundw
          case rel =>
            refine ⟨k + 1, q, N.set t r, rfl, by go_num, HSB.out, by have := HKM.out; omega, by simpa using HNL.out, HNF.out.set HSM.out, ?_, HB2.out, (keepb HBEN.out HBEE.out).setCell (Nat.le_of_eq HG0.out.symm) _⟩
            rw [HYMk.out]
            have h4 : B4 ^ (j + (k + 1)) = B4 ^ t * B4 := by rw [← Nat.add_assoc, HT.out, Nat.pow_succ]
            have h5 : B4 ^ t * (X * Y) = B4 ^ j * X * (B4 ^ k * Y) := by rw [← HT.out, Nat.pow_add]; ac_rfl
            rw [h4, HST.out, h5, Nat.mul_add (B4 ^ j * X), Nat.add_assoc]
          case measure => have := HKM.out; simp [intOf]; omega
        · have hkm : m ≤ k := by omega
          have hc0 : cy = 0 := by omega
          subst hc0
          have u1 : decide ((k : Int) < (m : Int)) = false := decide_eq_false (by omega)
          have u1' : decide (k < m) = false := decide_eq_false (by omega)
          have e0 : ((0 : Nat) : Int) = 0 := rfl
          have HVN := Lib.hid (show fval B4 N = x % B4 ^ (j + 1) * y by
            have h := HNV.out
            rw [Nat.mul_zero, Nat.add_zero, Nat.mod_eq_of_lt (Nat.lt_of_lt_of_le HYL.out (Nat.pow_le_pow_right (by decide) hkm))] at h
            rw [h, HXM.out, Nat.add_mul])
          rw [e0]
          clear hgo hin hkm e0 hcb'
          go_wp2_with fail
          go_roundw
          case rel => exact ⟨j + 1, N, by go_num, by have := HJL.out; omega, HNL.out, HNF.out, HVN.out, HBN.out, HBEN.out⟩
          case measure => have := HJL.out; simp [intOf]; omega
    · obtain rfl : j = n := by omega
      have t1 : decide ((j : Int) < j) = false := by simp
      have t1' : decide (j < j) = false := by simp
      have HVV := Lib.hid (show fval B4 M = x * y by rw [HMV.out, HXN.out])
      have HRT := Lib.hid (show RT wo 3 (some ⟨g0, 0, none⟩) (M.map fv) from RT.of_blk HBL.out (fun t ht => by rw [Nat.zero_add, List.getElem?_toArray, List.getElem?_eq_getElem ht]))
      have htr := rtrim_any (some ⟨g0, 0, none⟩) (j + m + 1) M wo HRT.out HMF.out (by rw [HML.out]; exact Nat.le_refl _) (by rw [HML.out]; omega)
      rw [HML.out] at htr
      have e2 : ((j + m + 1 : Nat) : Int) = (j : Int) + (m : Int) + 1 := by omega
      have HTR := Lib.hid htr
      have HBKr : Hid (Blk wo (w.heap.size + 2) 31 #[.slice none 0 0]) := HBK.out.below HBE.out (by rw [HSZ.out]; omega)
      clear hlt htr e2
      go_wp2_with fail
      refine HTR.out.mono ?_
      rintro e w4 ⟨k4, rfl, hk4, hf4, hb4⟩
      have HB4 := Lib.hid (keepb HBWo.out hb4)
      have HBK4 : Hid (Blk w4 (w.heap.size + 2) 31 #[.slice none 0 0]) := HBKr.out.below hb4 HBKr.out.lt
      have HL4 := Lib.hid (show RatL w4 (some ⟨g0, 0, none⟩) k4 (j + m + 1) (x * y) from ⟨M.take k4, by rw [← HVV.out]; exact hf4, by rw [List.length_take]; omega, by have := (HRT.out.below hb4).take k4; rwa [← List.map_take] at this, by rw [HML.out] at hk4; omega⟩)
      obtain ⟨cc, fc⟩ : w4.cell? ⟨w.heap.size + 2, 0, none⟩ = some (.slice none 0 0) ∧ w4.frozen? ⟨w.heap.size + 2, 0, none⟩ = false := ⟨HBK4.out.cell 0, HBK4.out.frozen 0⟩
      clear hk4 hf4 hb4
      go_wp2_with fail
      have hp := HBK4.out.put (i := 0) (by simp) (.slice (some ⟨g0, 0, none⟩) k4 (j + m + 1))
      exact bodyPost_ret (v := .agg #[.slice (some ⟨g0, 0, none⟩) k4 (j + m + 1)]) (by simp [results, Tryd.results29, go_sem, hp]) rfl ⟨_, _, _, rfl, HL4.out.set HBK4.out (by decide) _, HB4.out.setCell (p := ⟨w.heap.size + 2, 0, none⟩) (Nat.le_add_right _ _) _⟩
end Go.Proofs.YtgihkmofpncobaaDoor

namespace Go.Proofs.YtgihkmofpncobaaDoor
open Go.RowKit
set_option linter.unusedSimpArgs false
set_option linter.unusedVariables false

theorem two_lt {a n N : Nat} (ha : a ≤ 2 * N) (hN : N ≠ 0) (hn : N ≤ n) : 2 ^ a < B4 ^ n := by
  have h1 : 2 ^ a ≤ 2 ^ (2 * N) := Nat.pow_le_pow_right (by decide) ha
  rw [Nat.pow_mul] at h1
  have h2 : (2 ^ 2) ^ N < B4 ^ N := Nat.pow_lt_pow_left (by decide) hN
  exact Nat.lt_of_lt_of_le (Nat.lt_of_le_of_lt h1 h2) (Nat.pow_le_pow_right (by decide) hn)

theorem rproduct_v {N : Nat} (hN : N = 10000) (v u : Value) (x y : Nat) (w : World) (hv : RatW w v x) (hu : RatW w u y) (hx : x < B4 ^ N) (hy : y < B4 ^ N) :
    Calls Tryd.prog 29 #[v, u] w (RatV (x * y) w) := by
  subst hN
  exact rproduct_nat v u x y w hv hu hx hy
theorem b4_lt {y N : Nat} (h : y < B4 ^ 2) (hN : 2 ≤ N) : y < B4 ^ N := Nat.lt_of_lt_of_le h (Nat.pow_le_pow_right (by decide) hN)

set_option maxRecDepth 100000 in
set_option maxHeartbeats 2000000 in
theorem rtwo_nat (k : Nat) (w : World) (hk : k ≤ 20000) :
    Calls Tryd.prog 56 #[.int .i64 k] w (RatV (2 ^ k) w) := by
  have HK := Lib.hid hk
  obtain ⟨N, hN⟩ : ∃ N, N = 10000 := ⟨_, rfl⟩
  have HN := Lib.hid hN
  clear hN
  have hkI : (k : Int) ≤ 20000 := by omega
  have HB0 := Lib.hid ((Below.refl _ w).alloc (Nat.le_refl _) (.cells #[.slice none 0 0] 31))
  have HBK := Lib.hid (Blk.new w 31 #[.slice none 0 0])
  obtain ⟨w0, hw0⟩ : ∃ w0, w.alloc (.cells #[.slice none 0 0] 31) = w0 := ⟨_, rfl⟩
  have hsz : w0.heap.size = w.heap.size + 1 := by rw [← hw0]; simp
  rw [hw0] at HB0 HBK
  have HO1 := Lib.hid (show Calls Tryd.prog 15 #[.int .u64 1] w0 (RatV 1 w0) from rof_nat 1 w0 (by decide))
  have HSZ := Lib.hid hsz
  clear hk hsz
  go_enter Tryd.func56, Tryd.ntmps56
  go_wp2_with fail
  refine HO1.out.mono ?_
  rintro e w1 ⟨A, n, c, rfl, hl, hb⟩
  have HL := Lib.hid hl
  have HBW := Lib.hid hb
  clear hl hb hw0
  go_wp2_with fail
  obtain ⟨g1, hg1⟩ : ∃ g, w1.heap.size = g := ⟨_, rfl⟩
  obtain ⟨W0, hW0⟩ : ∃ W, w1.alloc (.cells #[.slice A n c] 31) = W := ⟨_, rfl⟩
  rw [hg1, hW0]
  have HB1 := Lib.hid (show Blk W0 g1 31 #[.slice A n c] by rw [← hW0, ← hg1]; exact Blk.new w1 _ _)
  have HBW0 : Hid (Below w.heap.size w W0) := Lib.hid (by rw [← hW0]; exact (keepb HB0.out HBW.out).trans ((Below.refl _ _).alloc (keepb HB0.out HBW.out).size _))
  have HG1 : Hid (w.heap.size < g1) := Lib.hid (by rw [← hg1]; exact Nat.lt_of_lt_of_le (by rw [HSZ.out]; omega) HBW.out.size)
  have HK0 : Hid (Blk W0 w.heap.size 31 #[.slice none 0 0]) := Lib.hid (by rw [← hW0]; exact (HBK.out.below HBW.out (by rw [HSZ.out]; omega)).below (below_new _ _) (by rw [hg1]; exact HG1.out))
  have HL1 : Hid (RatL W0 A n c 1) := Lib.hid (by rw [← hW0]; exact HL.out.below (below_new _ _))
  clear hg1 hW0
  go_loopw [0] (fun s0 wr => ∃ (j : Nat) (A : Option Addr) (n c : Nat), s0 = .int .i64 j ∧ j ≤ k ∧ Blk wr g1 31 #[.slice A n c] ∧ RatL wr A n c (2 ^ (k - j)) ∧ Blk wr w.heap.size 31 #[.slice none 0 0] ∧ Below w.heap.size w wr) (fun s _ => (intOf s).toNat)
  case atStart => exact ⟨k, A, n, c, rfl, Nat.le_refl _, HB1.out, by rw [Nat.sub_self]; exact HL1.out, HK0.out, HBW0.out⟩
  case round =>
    obtain ⟨j, A, n, c, rfl, hj, hb1, hl, hb0, hbel⟩ := hrel
    have HJ := Lib.hid hj
    have HBX := Lib.hid hb1
    have HLX := Lib.hid hl
    have HBR := Lib.hid hb0
    have HBE := Lib.hid hbel
    have hcl := hb1.cell 0
    have hz := hb1.lt
    have HZ := Lib.hid hz
    simp at hcl
    clear hl hb0 hbel hb1
    have HPR : Hid (∀ W u y, Below wr.heap.size wr W → RatW W u y → y < B4 ^ 2 → Calls Tryd.prog 29 #[.agg #[.slice A n c], u] W (RatV (2 ^ (k - j) * y) W)) := Lib.hid (fun W u y hb hu hy => rproduct_v HN.out _ u _ y W (HLX.out.below hb).w hu (two_lt (N := N) (by have := HK.out; have := HN.out; omega) (by have := HN.out; omega) (Nat.le_refl _)) (b4_lt hy (by have := HN.out; omega)))
    have hjI : (j : Int) ≤ 20000 := by omega
    by_cases h13 : 13 ≤ j
    · obtain ⟨i, hi⟩ : ∃ i, j = i + 13 := ⟨j - 13, by omega⟩
      have HI := Lib.hid hi
      have t1 : decide ((13 : Int) ≤ (j : Int)) = true := decide_eq_true (by omega)
      have t1' : decide (13 ≤ j) = true := decide_eq_true h13
      have e1 : (j : Int) - 13 = (i : Int) := by omega
      have HOF : Hid (∀ W, Calls Tryd.prog 15 #[.int .u64 8192] W (RatV 8192 W)) := Lib.hid (fun W => rof_nat 8192 W (by decide))
      clear hi h13 hj
      go_upto_region 3 with fail
      go_region_with (first
        | (go_at_call 15; refine (HOF.out _).mono ?_; rintro e wa ⟨A2, n2, c2, rfl, hl2, hb2⟩; have HLA := Lib.hid hl2; have HWA := Lib.hid (keepb (below_drewN (Below.refl _ _) 1) hb2); have hca := keepc HWA.out HZ.out hcl; clear hl2 hb2)
        | (go_at_call 29; refine (HPR.out _ _ _ HWA.out HLA.out.w (by decide)).mono ?_; rintro e wb ⟨A3, n3, c3, rfl, hl3, hb3⟩; have HLB := Lib.hid hl3; have HWB := Lib.hid (keepb HWA.out hb3); have HBB := Lib.hid (HBX.out.below HWB.out HZ.out); have hcb := HBB.out.cell 0; have hfb := HBB.out.frozen 0; simp at hcb; clear hl3 hb3))
      all_goals
        have HEX : Hid (2 ^ (k - j) * 8192 = 2 ^ (k - i)) := Lib.hid (by rw [show 8192 = 2 ^ 13 from rfl, ← Nat.pow_add]; congr 1; have := HI.out; have := HJ.out; omega)
        go_wp2_with fail
        go_roundw
        case rel => exact ⟨i, A3, n3, c3, by go_num, by have := HI.out; have := HJ.out; omega, HBB.out.set1 0 _, by rw [← HEX.out]; exact HLB.out.set HBB.out (by decide) _, (HBR.out.below HWB.out HBR.out.lt).far (p := ⟨g1, 0, none⟩) (by have := HG1.out; simp; omega) _, (keepb HBE.out HWB.out).setCell (p := ⟨g1, 0, none⟩) (Nat.le_of_lt HG1.out) _⟩
        case measure => have := HI.out; simp [intOf]; omega
    · have t1 : decide ((13 : Int) ≤ (j : Int)) = false := decide_eq_false (by omega)
      have t1' : decide (13 ≤ j) = false := decide_eq_false h13
      have hj12 : (j : Int) ≤ 12 := by omega
      have hr : 2 ^ j < 8192 := Nat.pow_lt_pow_right (by decide) (show j < 13 by omega)
      have hone : IntKind.u64.wrap (2 ^ j) = ((2 ^ j : Nat) : Int) := by
        have h := shl_w 1 j
        rw [Nat.one_mul, Nat.mod_eq_of_lt (by unfold W64; omega)] at h
        rw [← Int.one_mul ((2 : Int) ^ j)]
        exact h
      have HEX : Hid (2 ^ (k - j) * 2 ^ j = 2 ^ k) := Lib.hid (by rw [← Nat.pow_add]; congr 1; have := HJ.out; omega)
      generalize 2 ^ j = R at *
      have HOF : Hid (∀ W, Calls Tryd.prog 15 #[.int .u64 (R : Int)] W (RatV R W)) := Lib.hid (fun W => rof_nat R W (by unfold W64; omega))
      have HR : Hid (R < B4 ^ 2) := Lib.hid (Nat.lt_trans hr (by decide))
      have hf0 := HBR.out.frozen 0
      have c0 := HBR.out.cell 0
      clear h13 hj hr
      go_upto_region 5 with fail
      go_region_with (first
        | (go_at_call 15; refine (HOF.out _).mono ?_; rintro e wa ⟨A2, n2, c2, rfl, hl2, hb2⟩; have HLA := Lib.hid hl2; have HWA := Lib.hid (keepb (below_drewN (Below.refl _ _) 1) hb2); have hca := keepc HWA.out HZ.out hcl; clear hl2 hb2)
        | (go_at_call 29; refine (HPR.out _ _ _ HWA.out HLA.out.w HR.out).mono ?_; rintro e wb ⟨A3, n3, c3, rfl, hl3, hb3⟩; have HLB := Lib.hid hl3; have HWB := Lib.hid (keepb HWA.out hb3); have HBB := Lib.hid (HBR.out.below HWB.out HBR.out.lt); have hcb := HBB.out.cell 0; have hfb := HBB.out.frozen 0; simp at hcb; clear hl3 hb3))
      all_goals
        go_wp2_with fail
        have hp := HBB.out.put (i := 0) (by simp) (.slice A3 n3 c3)
        exact bodyPost_ret (v := .agg #[.slice A3 n3 c3]) (by simp [results, Tryd.results56, go_sem, hp]) rfl ⟨A3, n3, c3, rfl, by rw [← HEX.out]; exact HLB.out.set HBB.out (by decide) _, (keepb HBE.out HWB.out).setCell (p := ⟨w.heap.size, 0, none⟩) (Nat.le_refl _) _⟩
end Go.Proofs.YtgihkmofpncobaaDoor

namespace Go.Proofs.YtgihkmofpncobaaDoor
open Go.RowKit
set_option linter.unusedSimpArgs false
set_option linter.unusedVariables false

set_option maxRecDepth 100000 in
theorem rover_small (A : Option Addr) (n c : Nat) (w : World) (hn : n < 617) :
    Calls Tryd.prog 24 #[.agg #[.slice A n c]] w fun e w' => e = .returned (.bool false) ∧ Below w.heap.size w w' := by
  have t1 : decide ((n : Int) < 617) = true := decide_eq_true (by omega)
  have t1' : decide (n < 617) = true := decide_eq_true hn
  go_enter Tryd.func24, Tryd.ntmps24
  go_wp2_with fail
  exact bodyPost_ret (v := .bool false) (by simp [results, Tryd.results24, go_sem]) rfl ⟨rfl, by go_grown⟩

theorem rext_drop (b : List UInt8) (i : Nat) : (⟨b.toArray⟩ : ByteArray).extract i b.length = ⟨(b.drop i).toArray⟩ := by
  apply ByteArray.ext
  rw [ByteArray.data_extract]
  simp
  exact List.take_of_length_le (by simp)
theorem rext_take (b : List UInt8) (i : Nat) : (⟨b.toArray⟩ : ByteArray).extract 0 i = ⟨(b.take i).toArray⟩ := by
  apply ByteArray.ext
  rw [ByteArray.data_extract]
  simp
theorem dval_cut4 (b : List UInt8) (fr : Nat) (h : (4 < b.length ∧ fr = b.length - 4) ∨ (b.length ≤ 4 ∧ fr = 0)) : dval b = dval (b.take fr) * B4 + dval (b.drop fr) := by
  have h1 := dval_append (b.take fr) (b.drop fr)
  rw [List.take_append_drop] at h1
  rcases h with ⟨h, rfl⟩ | ⟨h, rfl⟩
  · rw [h1, List.length_drop, show b.length - (b.length - 4) = 4 by omega]; rfl
  · simp [dval_nil]
theorem dval_drop1 (b : List UInt8) (h : dn b 0 = 48) : dval (b.drop 1) = dval b := by
  cases b with
  | nil => rfl
  | cons c t =>
    have h1 := dval_append [c] t
    have h2 : c.toNat = 48 := by simpa [dn] using h
    have h3 : dval [c] = 0 := by simp [dval, h2]
    rw [h3, Nat.zero_mul, Nat.zero_add] at h1
    exact h1.symm
theorem dn_digit {s : List UInt8} (hd : ∀ c ∈ s, isD c = true) {j : Nat} (hj : j < s.length) : 48 ≤ dn s j ∧ dn s j ≤ 57 := by
  have := isD_dn s j hj
  rw [hd _ (List.getElem_mem hj)] at this
  simpa using this.symm
theorem dval_next (a : List UInt8) (fr j : Nat) (h1 : fr ≤ j) (h2 : j < a.length) : dval ((a.drop fr).take (j + 1 - fr)) = 10 * dval ((a.drop fr).take (j - fr)) + (dn a j - 48) := by
  have h3 : j + 1 - fr = (j - fr) + 1 := by omega
  have h4 : j - fr < (a.drop fr).length := by rw [List.length_drop]; omega
  rw [h3, List.take_succ_eq_append_getElem h4, dval_snoc]
  congr 2
  unfold dn
  rw [List.getElem_drop]
  have h5 : fr + (j - fr) = j := by omega
  simp only [h5]
  simp [List.getD, h2]
/-- What Parse answers of letters. -/
def RParse (x : Nat) (w : World) (e : Ending) (w' : World) : Prop := ∃ A n c b, e = .returned (.tuple #[.agg #[.slice A n c], .bool b]) ∧ RatL w' A n c x ∧ Below w.heap.size w w'

set_option maxRecDepth 100000 in
set_option maxHeartbeats 4000000 in
theorem rparse_any (s : List UInt8) (w : World) (hs : s.length ≤ 801) (hd : ∀ c ∈ s, isD c = true) :
    Calls Tryd.prog 20 #[.string ⟨s.toArray⟩] w (RParse (dval s) w) := by
  have HD := Lib.hid hd
  have HS := Lib.hid hs
  have HK0 := Lib.hid (Blk.new w 31 #[.slice none 0 0])
  have HB0 := Lib.hid ((Below.refl _ w).alloc (Nat.le_refl _) (.cells #[.slice none 0 0] 31))
  obtain ⟨w0, hw0⟩ : ∃ w0, w.alloc (.cells #[.slice none 0 0] 31) = w0 := ⟨_, rfl⟩
  rw [hw0] at HK0 HB0
  have hsz : w0.heap.size = w.heap.size + 1 := by rw [← hw0]; simp
  have HSZ := Lib.hid hsz
  clear hd hs hsz
  go_enter Tryd.func20, Tryd.ntmps20
  go_wp2_with fail
  clear hw0
  go_loopg [0] s.length (fun k s0 wr => ∃ b : List UInt8, s0 = .string ⟨b.toArray⟩ ∧ b.length = k ∧ k ≤ 801 ∧ (∀ c ∈ b, isD c = true) ∧ dval b = dval s ∧ w0 = wr)
  case atStart => exact ⟨s, rfl, rfl, HS.out, HD.out, rfl, rfl⟩
  case round =>
    obtain ⟨b, rfl, rfl, hb8, hbd, hbv, hww⟩ := hrel
    subst hww
    have HBD := Lib.hid hbd
    have HBV := Lib.hid hbv
    clear hbd hbv
    by_cases hgo : 0 < b.length ∧ dn b 0 = 48
    · obtain ⟨h0, h48⟩ := hgo
      have t0 : decide ((0 : Int) < b.length) = true := decide_eq_true (by omega)
      have t0' : decide (0 < b.length) = true := decide_eq_true h0
      have hg := dn_get b 0 h0
      have HV1 : Hid (dval b.tail = dval s) := Lib.hid (by rw [← List.drop_one, dval_drop1 b h48]; exact HBV.out)
      rw [h48] at hg
      clear h48
      have hex := rext_drop b 1
      have q : (1 : Int) ≤ b.length := by omega
      go_wp2_with fail
      go_roundg (b.length - 1)
      case measure => omega
      case rel => exact ⟨b.tail, rfl, by simp, by omega, fun c hc => HBD.out c (List.mem_of_mem_tail hc), HV1.out, rfl⟩
    · have hor : (decide ((0 : Int) < b.length) = false ∧ decide (0 < b.length) = false) ∨ (∃ (h : 0 < b.length) (x : Nat), decide ((0 : Int) < b.length) = true ∧ decide (0 < b.length) = true ∧ ((⟨b.toArray⟩ : ByteArray)[0]'h).toNat = x ∧ ((x : Int) == 48) = false) := by
        by_cases h0 : 0 < b.length
        · exact .inr ⟨h0, dn b 0, decide_eq_true (by omega), decide_eq_true h0, dn_get b 0 h0, by rw [beq_eq_false_iff_ne]; omega⟩
        · exact .inl ⟨decide_eq_false (by omega), decide_eq_false h0⟩
      have HOR := Lib.hid hor
      clear hor hgo
      go_upto_region 1 with fail
      go_cut [16] from 9 to 17 (fun s16 wx => s16 = .bool false ∧ w0 = wx)
      case first =>
        rcases HOR.out with ⟨u1, u2⟩ | ⟨h, x, u1, u2, u3, u4⟩
        all_goals
          go_wp2_with fail
          go_meet
          exact ⟨rfl, rfl⟩
      case rest =>
      obtain ⟨rfl, rfl⟩ := hcut
      clear HOR
      go_wp2_with fail
      go_loopg [0, 4] b.length (fun k s0 s4 wr => ∃ (a : List UInt8) (m : List Nat), s0 = .string ⟨a.toArray⟩ ∧ a.length = k ∧ k ≤ 801 ∧ (a.length = 0 ∨ 4 * m.length + a.length ≤ 801) ∧ 4 * m.length ≤ 804 ∧ (∀ c ∈ a, isD c = true) ∧ fval B4 m + B4 ^ m.length * dval a = dval s ∧ Figs B4 m ∧ OwnR wr (w.heap.size + 1) 3 okI s4 m.length (m.map fv) ∧ Blk wr w.heap.size 31 #[.slice none 0 0] ∧ Below w.heap.size w wr)
      case atStart => exact ⟨b, [], rfl, rfl, hb8, .inr (by simpa using hb8), by simp, HBD.out, by simpa [fval] using HBV.out, Figs.nil _, OwnR.nil _ _ _ _, HK0.out, HB0.out⟩
      case round =>
        obtain ⟨a, m, rfl, rfl, ha8, hm8, hm4, had, hav, hmf, hu, hk, hbe⟩ := hrel
        obtain ⟨wo, rfl⟩ : ∃ wo : World, wo = wr := ⟨_, rfl⟩
        have HAD := Lib.hid had
        have HAV := Lib.hid hav
        have HM8 := Lib.hid hm8
        have HMF := Lib.hid hmf
        have HU := Lib.hid hu
        have HK := Lib.hid hk
        have HBE := Lib.hid hbe
        obtain ⟨A1, c1, hu', hc1⟩ := hu.shape
        subst hu'
        have HLE : Hid (w.heap.size + 1 ≤ wo.heap.size) := Lib.hid hk.lt
        clear had hav hm8 hmf hu hk hbe
        by_cases h0 : 0 < a.length
        · have t0 : decide ((0 : Int) < a.length) = true := decide_eq_true (by omega)
          have t0' : decide (0 < a.length) = true := decide_eq_true h0
          have hm1 : 4 * m.length + a.length ≤ 801 := by rcases HM8.out with h | h <;> omega
          obtain ⟨fr, hfr⟩ : ∃ fr, (4 < a.length ∧ fr = a.length - 4) ∨ (a.length ≤ 4 ∧ fr = 0) := by
            rcases Nat.lt_or_ge 4 a.length with h | h
            · exact ⟨_, .inl ⟨h, rfl⟩⟩
            · exact ⟨_, .inr ⟨h, rfl⟩⟩
          have HFR := Lib.hid hfr
          have HDC := Lib.hid (dval_cut4 a fr hfr)
          obtain ⟨tb, htb⟩ : ∃ tb, decide ((4 : Int) < a.length) = tb := ⟨_, rfl⟩
          obtain ⟨tb', htb'⟩ : ∃ tb, decide (4 < a.length) = tb := ⟨_, rfl⟩
          have htt : tb' = tb := by rw [← htb, ← htb']; exact decide_eq_decide.2 (by omega)
          subst htt
          have HTB := Lib.hid htb'
          have hfl : fr < a.length := by omega
          have hf4 : a.length ≤ fr + 4 := by omega
          clear hfr
          go_upto_if 28 with fail
          go_cut [5] from 29 to 32 (fun s5 wx => s5 = .int .i64 fr ∧ wo = wx)
          case first =>
            rcases HFR.out with ⟨h1, h2⟩ | ⟨h1, h2⟩
            · obtain rfl : tb' = true := by rw [← HTB.out]; exact decide_eq_true h1
              have e : (a.length : Int) - 4 = (fr : Int) := by omega
              clear h1 h2
              go_wp2_with fail
              go_meet
              exact ⟨rfl, rfl⟩
            · obtain rfl : tb' = false := by rw [← HTB.out]; exact decide_eq_false (by omega)
              subst h2
              clear h1
              go_wp2_with fail
              go_meet
              exact ⟨rfl, rfl⟩
          case rest =>
          obtain ⟨rfl, rfl⟩ := hcut
          clear htb htb' HTB
          go_wp2_with fail
          go_loop [6, 7] (fun s6 s7 => ∃ j : Nat, fr ≤ j ∧ j ≤ a.length ∧ s7 = .int .i64 j ∧ s6 = fv (dval ((a.drop fr).take (j - fr)))) (fun _ s7 => a.length - (intOf s7).toNat)
          case atStart => exact ⟨fr, Nat.le_refl _, by omega, rfl, by rw [Nat.sub_self]; rfl⟩
          case round =>
            obtain ⟨j, hfj, hja, rfl, rfl⟩ := hrel
            by_cases hlt : j < a.length
            · have hb := dn_get a j hlt
              obtain ⟨h48, h57⟩ := dn_digit HAD.out hlt
              have HNX := Lib.hid (dval_next a fr j hfj hlt)
              have hy : dval ((a.drop fr).take (j - fr)) < 1000 := by
                have h1 := dval_lt ((a.drop fr).take (j - fr)) (fun c hc => HAD.out c (List.mem_of_mem_drop (List.mem_of_mem_take hc)))
                rw [List.length_take, List.length_drop, Nat.min_eq_left (by omega)] at h1
                have h2 : 10 ^ (j - fr) ≤ 10 ^ 3 := Nat.pow_le_pow_right (by omega) (by omega)
                omega
              have t4 : decide ((j : Int) < a.length) = true := decide_eq_true (by omega)
              have t4' : decide (j < a.length) = true := decide_eq_true hlt
              have q : (j : Int) < a.length := by omega
              have hyI : (dval ((a.drop fr).take (j - fr)) : Int) < 1000 := by omega
              generalize dn a j = x at *
              generalize dval ((a.drop fr).take (j - fr)) = y at *
              go_wp2_with fail
              go_round
              case rel => exact ⟨j + 1, by omega, by omega, by go_num, by rw [HNX.out]; show Value.int _ _ = Value.int _ _; congr 1; omega⟩
              case measure => simp [intOf]; omega
            · obtain rfl : j = a.length := by omega
              have t4 : decide ((a.length : Int) < a.length) = false := by simp
              have t4' : decide (a.length < a.length) = false := by simp
              have htk : (a.drop fr).take (a.length - fr) = a.drop fr := List.take_of_length_le (by simp)
              rw [htk]
              have hX : dval (a.drop fr) < B4 := by
                have h1 := dval_lt (a.drop fr) (fun c hc => HAD.out c (List.mem_of_mem_drop hc))
                rw [List.length_drop] at h1
                have h2 : 10 ^ (a.length - fr) ≤ 10 ^ 4 := Nat.pow_le_pow_right (by omega) (by omega)
                unfold B4
                omega
              have HX := Lib.hid hX
              have HNV : Hid (fval B4 (m ++ [dval (a.drop fr)]) + B4 ^ (m.length + 1) * dval (a.take fr) = dval s) := Lib.hid (by
                rw [← HAV.out, HDC.out, fval_snoc, Nat.pow_succ, Nat.mul_add]
                have : B4 ^ m.length * B4 * dval (a.take fr) = B4 ^ m.length * (dval (a.take fr) * B4) := by ac_rfl
                omega)
              have hex := rext_take a fr
              have q : (fr : Int) ≤ a.length := by omega
              clear hlt htk hX
              generalize dval (a.drop fr) = d at *
              go_wp2_with (at_builtin; refine wpList_app ei_int okI0 rfl (.tmp 47) (.tmp 49) rfl (w.heap.size + 1) _ _ _ rfl (HU.out.below (below_new _ _)) _ _ _ _ _ rfl (RV.fresh wo 3 [fv d]) (fun u hu => by simp at hu; subst hu; rfl) (show m.length + 1 ≤ _ by omega) (show (m.length + 1) * 8 ≤ _ by omega) (by have := HLE.out; simp; omega) ?_; intro A3 c3 w3 hu3 hg3 ha3)
              go_roundg fr
              case measure => omega
              case rel => exact ⟨a.take fr, m ++ [d], by simp, by simp; omega, by omega, by simp; rcases HFR.out with h | h <;> omega, by simp; omega, fun c hc => HAD.out c (List.mem_of_mem_take hc), by simpa using HNV.out, HMF.out.snoc HX.out, by simpa using hu3, (HK.out.alloc _).grown hg3 (fun h => HU.out.apart HK.out (by decide) h.symm), (HBE.out.alloc (by have := HLE.out; omega) _).grown hg3 (by have := HLE.out; simp; omega) (fun k hk => by have := (HU.out.lt k hk).1; omega)⟩
        · obtain rfl : a = [] := List.eq_nil_of_length_eq_zero (by omega)
          have HVV : Hid (fval B4 m = dval s) := Lib.hid (by have := HAV.out; rwa [dval_nil, Nat.mul_zero, Nat.add_zero] at this)
          have HRT : Hid (RT wo 3 A1 (m.map fv)) := Lib.hid (RT.of_own HU.out)
          have HTR := Lib.hid (rtrim_any A1 c1 m wo HRT.out HMF.out hc1 (by omega))
          clear h0
          go_wp2_with fail
          refine HTR.out.mono ?_
          rintro e w4 ⟨k4, rfl, hk4, hf4, hb4⟩
          have HBW4 := Lib.hid (keepb HBE.out hb4)
          have HK4 : Hid (Blk w4 w.heap.size 31 #[.slice none 0 0]) := Lib.hid (HK.out.below hb4 HK.out.lt)
          have HL4 := Lib.hid (show RatL w4 A1 k4 c1 (dval s) from ⟨m.take k4, by rw [← HVV.out]; exact hf4, by rw [List.length_take]; omega, by have := (HRT.out.below hb4).take k4; rwa [← List.map_take] at this, by omega⟩)
          have HOV := Lib.hid (fun W => rover_small A1 k4 c1 W (by omega))
          obtain ⟨W5, hW5⟩ : ∃ W, w4.alloc (.cells #[.slice A1 k4 c1] 31) = W := ⟨_, rfl⟩
          obtain ⟨g5, hg5⟩ : ∃ g, w4.heap.size = g := ⟨_, rfl⟩
          have HN5 : Hid (Blk W5 g5 31 #[.slice A1 k4 c1]) := Lib.hid (by rw [← hW5, ← hg5]; exact Blk.new w4 _ _)
          have hb5 : Below w4.heap.size w4 W5 := by rw [← hW5]; exact below_new _ _
          have HL5 := Lib.hid (HL4.out.below hb5)
          have HK5 := Lib.hid (HK4.out.below hb5 HK4.out.lt)
          have HB5 := Lib.hid (keepb HBW4.out hb5)
          clear hk4 hf4 hb4 hb5
          go_upto_region 18 with fail
          have hcn := HN5.out.cell 0
          have hck := HK5.out.cell 0
          have hfk := HK5.out.frozen 0
          simp at hcn hck
          go_region_with (first
            | (go_at_call 24; refine (HOV.out _).mono ?_; rintro e w6 ⟨rfl, hb6⟩; have HB6 := Lib.hid (keepb (below_drewN (Below.refl _ _) 1) hb6); have hcn6 := keepc HB6.out HN5.out.lt hcn; have hck6 := keepc HB6.out HK5.out.lt hck; have hfk6 := keepf HB6.out HK5.out.lt hfk; clear hb6))
          all_goals
            have HK6 := Lib.hid (HK5.out.below HB6.out HK5.out.lt)
            go_wp2_with fail
            have hp := HK6.out.put (i := 0) (by simp) (.slice A1 k4 c1)
            exact bodyPost_ret (v := .tuple #[.agg #[.slice A1 k4 c1], .bool true]) (by simp [results, Tryd.results20, go_sem, hp]) rfl ⟨A1, k4, c1, true, rfl, (HL5.out.below HB6.out).set HK6.out (by decide) _, (keepb HB5.out HB6.out).setCell (p := ⟨w.heap.size, 0, none⟩) (Nat.le_refl _) _⟩
end Go.Proofs.YtgihkmofpncobaaDoor

namespace Go.Proofs.YtgihkmofpncobaaDoor
open Go.RowKit
set_option linter.unusedSimpArgs false
set_option linter.unusedVariables false

theorem isF_noughts {x k : Nat} {l : List Nat} (h : IsF B4 x l) (h0 : 0 < x) : IsF B4 (x * B4 ^ k) (List.replicate k 0 ++ l) := by
  have hl : 0 < l.length := (h.pos (by decide)).2 h0
  refine ⟨Figs.append (fun d hd => by rw [(List.mem_replicate.1 hd).2]; decide) h.figs, ?_, fun i hi => ?_⟩
  · rw [fval_append, List.length_replicate, fval_zero (fun d hd => (List.mem_replicate.1 hd).2), h.val, Nat.zero_add, Nat.mul_comm]
  · rw [List.length_append, List.length_replicate] at hi
    have h1 := h.tops (i - k) (by omega)
    rw [List.getD_eq_getElem?_getD, List.getElem?_append_right (by simp; omega), List.length_replicate, ← List.getD_eq_getElem?_getD]
    exact h1
theorem b4_ten (k : Nat) : B4 ^ k = 10 ^ (4 * k) := by rw [Nat.pow_mul]; rfl

end Go.Proofs.YtgihkmofpncobaaDoor
