/- The contract of natural numbers' Cmp. The contracts of natural numbers' Add. The contract of natural numbers' Sub. The contract of natural numbers' Mul. Boxes that hold natural numbers. The contracts of natural numbers' Bit, Word. The contract of natural numbers' twice. The contract of natural numbers' Divide. The contract of natural numbers' Shl. The contract of natural numbers' Shr. The contract of natural numbers' Shr. -/
import Derived.Test.YtgihkmofpncobaaDoorNatC
import Derived.Test.YtgihkmofpncobaaDoorPairC
import Derived.Deep.RegionHeld3
import Derived.Deep.RegionWith
import Derived.Deep.DrawnRows
namespace Go.Proofs.YtgihkmofpncobaaDoor
open Go.RowKit
set_option linter.unusedSimpArgs false
set_option linter.unusedVariables false

theorem cmpI_step (x y : Nat) (j : Nat) (h : x / W64 ^ (j + 1) = y / W64 ^ (j + 1)) : (x / W64 ^ j = y / W64 ^ j ↔ x / W64 ^ j % W64 = y / W64 ^ j % W64) ∧ (x / W64 ^ j % W64 < y / W64 ^ j % W64 → x < y) ∧ (y / W64 ^ j % W64 < x / W64 ^ j % W64 → y < x) := by
  have e : ∀ z, z / W64 ^ j = W64 * (z / W64 ^ (j + 1)) + z / W64 ^ j % W64 := fun z => by
    rw [Nat.pow_succ, ← Nat.div_div_eq_div_mul, Nat.div_add_mod]
  have ex := e x
  have ey := e y
  rw [h] at ex
  refine ⟨⟨fun h1 => by rw [h1], fun h1 => by rw [ex, ey, h1]⟩, fun h1 => ?_, fun h1 => ?_⟩
  · have h2 : x / W64 ^ j < y / W64 ^ j := by rw [ex, ey]; omega
    exact Nat.lt_of_not_le fun h3 => Nat.not_le_of_lt h2 (Nat.div_le_div_right h3)
  · have h2 : y / W64 ^ j < x / W64 ^ j := by rw [ex, ey]; omega
    exact Nat.lt_of_not_le fun h3 => Nat.not_le_of_lt h2 (Nat.div_le_div_right h3)

theorem s_call {wr W w1 : World} {b c : Nat} {v u : Value} (h1 : W.cell? ⟨b, 0, none⟩ = some v) (h2 : W.cell? ⟨c, 0, none⟩ = some u) (h3 : Below wr.heap.size wr W) (hz : b < wr.heap.size) (hz2 : c < wr.heap.size) (hb : Below W.heap.size W w1) :
    w1.cell? ⟨b, 0, none⟩ = some v ∧ w1.cell? ⟨c, 0, none⟩ = some u ∧ Below wr.heap.size wr w1 :=
  ⟨keepc hb (Nat.lt_of_lt_of_le hz h3.size) h1, keepc hb (Nat.lt_of_lt_of_le hz2 h3.size) h2, keepb h3 hb⟩
theorem s_drew {wr W : World} {b c : Nat} {v u : Value} (h1 : W.cell? ⟨b, 0, none⟩ = some v) (h2 : W.cell? ⟨c, 0, none⟩ = some u) (h3 : Below wr.heap.size wr W) :
    W.drew.cell? ⟨b, 0, none⟩ = some v ∧ W.drew.cell? ⟨c, 0, none⟩ = some u ∧ Below wr.heap.size wr W.drew := ⟨h1, h2, ⟨h3.os, h3.tape, h3.output, h3.size, h3.block⟩⟩

set_option maxRecDepth 100000 in
set_option maxHeartbeats 4000000 in
theorem cmp_nat (v u : Value) (x y : Nat) (w : World) (hv : NatW w v x) (hu : NatW w u y) (hx : blen x ≤ 1000000) (hy : blen y ≤ 1000000) :
    Calls Tryd.prog 10 #[v, u] w fun e w' => e = .returned (.int .i64 (cmpI x y)) ∧ Below w.heap.size w w' := by
  have HV := Lib.hid hv
  have HU := Lib.hid hu
  obtain ⟨A, n, c, rfl, hl⟩ := hv
  obtain ⟨B, m, d, rfl, hk⟩ := hu
  have hn := natl_len hl
  have hm := natl_len hk
  have hxn : x < W64 ^ n := by obtain ⟨l, h1, rfl, _⟩ := hl; exact h1.lt
  have hym : y < W64 ^ m := by obtain ⟨l, h1, rfl, _⟩ := hk; exact h1.lt
  have hW : 0 < W64 := by unfold W64; omega
  obtain ⟨q, hq⟩ : ∃ q, q = max n m := ⟨_, rfl⟩
  have hq0 : x / W64 ^ q = y / W64 ^ q := by
    rw [Nat.div_eq_of_lt (Nat.lt_of_lt_of_le hxn (Nat.pow_le_pow_right hW (by omega))), Nat.div_eq_of_lt (Nat.lt_of_lt_of_le hym (Nat.pow_le_pow_right hW (by omega)))]
  have HQ0 := Lib.hid hq0
  have hmax : max (n : Int) (m : Int) = (q : Int) := by omega
  have hq1 : q ≤ 20000 := by omega
  clear hl hk hn hm hxn hym hW hq hq0 hx hy
  go_enter Tryd.func10, Tryd.ntmps10
  go_wp2_with fail
  obtain ⟨W0, hW0⟩ : ∃ W0, W0 = (w.alloc (.cells #[.slice A n c] 26)).alloc (.cells #[.slice B m d] 26) := ⟨_, rfl⟩
  have hb0 : Below w.heap.size w W0 := by rw [hW0]; go_grown
  have hsz : W0.heap.size = w.heap.size + 1 + 1 := by rw [hW0]; simp
  have ca : W0.cell? ⟨w.heap.size, 0, none⟩ = some (.slice A n c) := by rw [hW0]; simp
  have cb : W0.cell? ⟨w.heap.size + 1, 0, none⟩ = some (.slice B m d) := by rw [hW0]; simp
  rw [← hW0]
  have HB0 := Lib.hid hb0
  have HSZ := Lib.hid hsz
  have HA := Lib.hid ca
  have HB := Lib.hid cb
  clear hW0 hb0 hsz ca cb
  go_loopw [5] (fun s wr => ∃ j : Nat, s = .int .i64 ((j : Int) - 1) ∧ j ≤ q ∧ x / W64 ^ j = y / W64 ^ j ∧ Below W0.heap.size W0 wr) (fun s _ => (intOf s + 1).toNat)
  case atStart => exact ⟨q, rfl, Nat.le_refl _, HQ0.out, Below.refl _ _⟩
  case round =>
    obtain ⟨j, rfl, hj, heq, hbel⟩ := hrel
    have HEQ := Lib.hid heq
    have HBE := Lib.hid hbel
    have ca := keepc hbel (by rw [HSZ.out]; omega) HA.out
    have cb := keepc hbel (by rw [HSZ.out]; omega) HB.out
    have hszr : w.heap.size + 1 + 1 ≤ wr.heap.size := by have := hbel.size; rw [HSZ.out] at this; exact this
    clear heq hbel
    cases j with
    | zero =>
      have hxy : x = y := by have := HEQ.out; simpa using this
      have hc : cmpI x y = 0 := by unfold cmpI; rw [if_pos hxy]
      have HC := Lib.hid hc
      clear hxy hc
      go_wp2_with fail
      go_ret
      exact ⟨by rw [HC.out]; rfl, keepb HB0.out HBE.out⟩
    | succ i =>
      have HST := Lib.hid (cmpI_step x y i HEQ.out)
      have HWX := Lib.hid (fun W hb => word_nat _ x i W (HV.out.below hb) (by omega))
      have HWY := Lib.hid (fun W hb => word_nat _ y i W (HU.out.below hb) (by omega))
      have hi0 : (0 : Int) ≤ i := by omega
      have HBW : Hid (Below w.heap.size w wr) := keepb HB0.out HBE.out
      have hz1 : w.heap.size < wr.heap.size := by omega
      have hz2 : w.heap.size + 1 < wr.heap.size := by omega
      have hbr : Below wr.heap.size wr wr := Below.refl _ _
      generalize x / W64 ^ i % W64 = xi at *
      generalize y / W64 ^ i % W64 = yi at *
      go_wp2_with fail
      go_region_held3 (fun w' => w'.cell? ⟨w.heap.size, 0, none⟩ = some (.slice A n c) ∧ w'.cell? ⟨w.heap.size + 1, 0, none⟩ = some (.slice B m d) ∧ Below wr.heap.size wr w')
        (first
          | (go_keep; done)
          | (go_split_ands; exact s_call (by assumption) (by assumption) (by assumption) hz1 hz2 hbn)
          | (go_split_ands; exact s_drew (by assumption) (by assumption) (by assumption)))
        (first
          | (go_at_call_of 48 (Value.agg #[Value.slice A n c]); go_split_ands; refine (HWX.out _ (keepb HBW.out (by assumption))).mono ?_; rintro e w' ⟨rfl, hbn⟩)
          | (go_at_call_of 48 (Value.agg #[Value.slice B m d]); go_split_ands; refine (HWY.out _ (keepb HBW.out (by assumption))).mono ?_; rintro e w' ⟨rfl, hbn⟩))
      go_split_ands
      have hbw : Below wr.heap.size wr w' := by assumption
      have HBW2 := Lib.hid (keepb HBW.out hbw)
      have HBR2 := Lib.hid (keepb HBE.out hbw)
      by_cases h1 : xi < yi
      · have hc : cmpI x y = -1 := by
          have h2 := HST.out.2.1 h1
          unfold cmpI
          rw [if_neg (by omega), if_pos h2]
        have HC := Lib.hid hc
        have t1 : decide (xi < yi) = true := by simpa using h1
        clear hc h1 hbw
        go_wp2_with fail
        go_ret
        exact ⟨by rw [HC.out]; rfl, HBW2.out⟩
      · by_cases h2 : yi < xi
        · have hc : cmpI x y = 1 := by
            have h3 := HST.out.2.2 h2
            unfold cmpI
            rw [if_neg (by omega), if_neg (by omega)]
          have HC := Lib.hid hc
          have t1 : decide (xi < yi) = false := by simpa using h1
          have t2 : decide (yi < xi) = true := by simpa using h2
          clear hc h1 h2 hbw
          go_wp2_with fail
          go_ret
          exact ⟨by rw [HC.out]; rfl, HBW2.out⟩
        · have heq : x / W64 ^ i = y / W64 ^ i := HST.out.1.2 (by omega)
          have HE := Lib.hid heq
          have t1 : decide (xi < yi) = false := by simpa using h1
          have t2 : decide (yi < xi) = false := by simpa using h2
          clear heq h1 h2 hbw
          go_wp2_with fail
          go_roundw
          case rel => exact ⟨i, by go_num, by omega, HE.out, HBR2.out⟩
          case measure => simp [intOf]
end Go.Proofs.YtgihkmofpncobaaDoor

namespace Go.Proofs.YtgihkmofpncobaaDoor
open Go.RowKit
set_option linter.unusedSimpArgs false
set_option linter.unusedVariables false

theorem nadd_step {x y c X Y lo hi P B C : Nat} (h : lo + W64 * hi = X + Y + c) (hv : B + P * c = x + y) (hC : C = P * W64) : (B + P * lo) + C * hi = (x + P * X) + (y + P * Y) := by
  have e : P * lo + P * (W64 * hi) = P * X + P * Y + P * c := by rw [← Nat.mul_add, h, Nat.mul_add, Nat.mul_add]
  have e2 : C * hi = P * (W64 * hi) := by rw [hC, Nat.mul_assoc]
  rw [e2]
  omega

theorem blen_add {x y k : Nat} (hx : blen x ≤ k) (hy : blen y ≤ k) : blen (x + y) ≤ k + 1 := by
  have h1 := blen_le.1 hx
  have h2 := blen_le.1 hy
  exact blen_le.2 (by rw [Nat.pow_succ]; omega)
theorem boxes3 (w : World) (u v : Value) (t : TypeId) (o : Obj) : (((w.alloc (.cells #[u] t)).alloc (.cells #[v] t)).alloc o).cell? ⟨w.heap.size, 0, none⟩ = some u ∧ (((w.alloc (.cells #[u] t)).alloc (.cells #[v] t)).alloc o).cell? ⟨w.heap.size + 1, 0, none⟩ = some v := by
  have h1 : (w.alloc (.cells #[u] t)).cell? ⟨w.heap.size, 0, none⟩ = some u := by simp
  have h2 : ((w.alloc (.cells #[u] t)).alloc (.cells #[v] t)).cell? ⟨w.heap.size + 1, 0, none⟩ = some v := by
    have := (Blk.new (w.alloc (.cells #[u] t)) t #[v]).cell 0
    rw [World.size_alloc] at this; exact this.trans rfl
  exact ⟨keepc (below_new _ _) (by simp; omega) (keepc (below_new _ _) (by simp) h1), keepc (below_new _ _) (by simp) h2⟩

set_option maxRecDepth 100000 in
set_option maxHeartbeats 4000000 in
theorem add_nat (v u : Value) (x y : Nat) (w : World) (hv : NatW w v x) (hu : NatW w u y) (hx : blen x ≤ 800000) (hy : blen y ≤ 800000) :
    Calls Tryd.prog 22 #[v, u] w (NatB (x + y) w) := by
  have HV := Lib.hid hv
  have HU := Lib.hid hu
  obtain ⟨A, n, c, rfl, hl⟩ := hv
  obtain ⟨B, m, d, rfl, hk⟩ := hu
  have hn := natl_len hl
  have hm := natl_len hk
  have hxn : x < W64 ^ n := by obtain ⟨l, h1, rfl, _⟩ := hl; exact h1.lt
  have hym : y < W64 ^ m := by obtain ⟨l, h1, rfl, _⟩ := hk; exact h1.lt
  have hW : 0 < W64 := by unfold W64; omega
  obtain ⟨q, hq⟩ : ∃ q, q = max n m := ⟨_, rfl⟩
  have HXQ := Lib.hid (Nat.mod_eq_of_lt (Nat.lt_of_lt_of_le hxn (Nat.pow_le_pow_right hW (show n ≤ q by omega))))
  have HYQ := Lib.hid (Nat.mod_eq_of_lt (Nat.lt_of_lt_of_le hym (Nat.pow_le_pow_right hW (show m ≤ q by omega))))
  have hmax : max (n : Int) (m : Int) = (q : Int) := by omega
  have hq1 : q ≤ 20000 := by omega
  have HBX : Hid (blen (x + y) ≤ 1000000) := Lib.hid (Nat.le_trans (blen_add hx hy) (by decide))
  clear hl hk hn hm hxn hym hW hq hx hy
  go_enter Tryd.func22, Tryd.ntmps22
  go_wp2_with fail
  obtain ⟨W0, hW0⟩ : ∃ W0, W0 = ((w.alloc (.cells #[.slice A n c] 26)).alloc (.cells #[.slice B m d] 26)).alloc (.cells #[.slice none 0 0] 26) := ⟨_, rfl⟩
  have hb0 : Below w.heap.size w W0 := by rw [hW0]; go_grown
  have hsz : W0.heap.size = w.heap.size + 1 + 1 + 1 := by rw [hW0]; simp
  have ca : W0.cell? ⟨w.heap.size, 0, none⟩ = some (.slice A n c) := by rw [hW0]; exact (boxes3 w _ _ _ _).1
  have cb : W0.cell? ⟨w.heap.size + 1, 0, none⟩ = some (.slice B m d) := by rw [hW0]; exact (boxes3 w _ _ _ _).2
  have hbk : Blk W0 (w.heap.size + 2) 26 #[.slice none 0 0] := by
    have := Blk.new ((w.alloc (.cells #[.slice A n c] 26)).alloc (.cells #[.slice B m d] 26)) 26 #[.slice none 0 0]
    simp only [World.size_alloc] at this
    rw [hW0]; exact this
  rw [← hW0]
  have HB0 := Lib.hid hb0
  have HSZ := Lib.hid hsz
  have HA := Lib.hid ca
  have HB := Lib.hid cb
  have HBK := Lib.hid hbk
  clear hW0 hb0 hsz ca cb hbk
  go_loopw [6, 7, 17] (fun s6 s7 s17 wr => ∃ (j k : Nat) (acc : List Nat), s17 = .int .i64 j ∧ s7 = wv k ∧ k ≤ 1 ∧ j ≤ q ∧ acc.length = j ∧ Figs W64 acc ∧ fval W64 acc + W64 ^ j * k = x % W64 ^ j + y % W64 ^ j ∧
      OwnR wr W0.heap.size 35 okW s6 j (acc.map wv) ∧ Below W0.heap.size W0 wr) (fun _ _ s _ => q - (intOf s).toNat)
  case atStart => exact ⟨0, 0, [], rfl, rfl, by omega, by omega, rfl, Figs.nil _, by simp [fval, Nat.mod_one], OwnR.nil _ _ _ _, Below.refl _ _⟩
  case round =>
    obtain ⟨j, k, acc, rfl, rfl, hk1, hj, hal, hfa, hinv, hu6, hbel⟩ := hrel
    obtain ⟨A6, c6, hsh, _⟩ := hu6.shape
    subst hsh
    have HAL := Lib.hid hal
    have HFA := Lib.hid hfa
    have HINV := Lib.hid hinv
    have HU6 := Lib.hid hu6
    have HBE := Lib.hid hbel
    have ca := keepc hbel (by rw [HSZ.out]; omega) HA.out
    have cb := keepc hbel (by rw [HSZ.out]; omega) HB.out
    have hszr : w.heap.size + 1 + 1 + 1 ≤ wr.heap.size := by have := hbel.size; rw [HSZ.out] at this; exact this
    have HBW : Hid (Below w.heap.size w wr) := keepb HB0.out HBE.out
    clear hal hfa hinv hu6 hbel
    by_cases hlt : j < q
    · have HWX := Lib.hid (fun W hb => word_nat _ x j W (HV.out.below hb) (by omega))
      have HWY := Lib.hid (fun W hb => word_nat _ y j W (HU.out.below hb) (by omega))
      have HXM : Hid (x % W64 ^ (j + 1) = x % W64 ^ j + W64 ^ j * (x / W64 ^ j % W64)) := Nat.mod_pow_succ
      have HYM : Hid (y % W64 ^ (j + 1) = y % W64 ^ j + W64 ^ j * (y / W64 ^ j % W64)) := Nat.mod_pow_succ
      have hX : x / W64 ^ j % W64 < W64 := Nat.mod_lt _ (by unfold W64; omega)
      have hY : y / W64 ^ j % W64 < W64 := Nat.mod_lt _ (by unfold W64; omega)
      have HX := Lib.hid hX
      have HY := Lib.hid hY
      have t1 : decide ((j : Int) < q) = true := by simp; omega
      have t1' : decide (j < q) = true := by simp; omega
      clear hX hY
      generalize x / W64 ^ j % W64 = X at *
      generalize y / W64 ^ j % W64 = Y at *
      have cad := fun W => call_add X Y k hk1 W
      have HADD := Lib.hid (add_eq X Y k)
      have HLO := Lib.hid (addLo_lt X Y k)
      have hhi := addHi_le HX.out HY.out hk1
      have hz1 : w.heap.size < wr.heap.size := by omega
      have hz2 : w.heap.size + 1 < wr.heap.size := by omega
      have hbr : Below wr.heap.size wr wr := Below.refl _ _
      generalize addLo X Y k = lo at *
      generalize addHi X Y k = hi at *
      have HNX := Lib.hid (nadd_step HADD.out HINV.out (Nat.pow_succ W64 j))
      rw [← HXM.out, ← HYM.out] at HNX
      go_wp2_with fail
      go_region_held3 (fun w' => w'.cell? ⟨w.heap.size, 0, none⟩ = some (.slice A n c) ∧ w'.cell? ⟨w.heap.size + 1, 0, none⟩ = some (.slice B m d) ∧ Below wr.heap.size wr w')
        (first
          | (go_keep; done)
          | (go_split_ands; exact s_call (by assumption) (by assumption) (by assumption) hz1 hz2 hbn)
          | (go_split_ands; exact s_drew (by assumption) (by assumption) (by assumption)))
        (first
          | (go_at_call_of 48 (Value.agg #[Value.slice A n c]); go_split_ands; refine (HWX.out _ (keepb HBW.out (by assumption))).mono ?_; rintro e w' ⟨rfl, hbn⟩)
          | (go_at_call_of 48 (Value.agg #[Value.slice B m d]); go_split_ands; refine (HWY.out _ (keepb HBW.out (by assumption))).mono ?_; rintro e w' ⟨rfl, hbn⟩))
      go_split_ands
      have hbw : Below wr.heap.size wr w' := by assumption
      have HBR := Lib.hid (keepb HBE.out hbw)
      have HU2 := Lib.hid (HU6.out.below hbw)
      have hszw := HBR.out.size
      clear hbw
      go_wp2_with (at_builtin; refine wpList_app ei_u64 okW0 rfl (.tmp 31) (.tmp 33) rfl W0.heap.size _ _ _ rfl (HU2.out.below (below_new _ _)) _ _ _ _ _ rfl (RV.fresh w' 35 [wv lo]) (fun u hu => by simp at hu; subst hu; rfl) (show j + 1 ≤ _ by omega) (show (j + 1) * 8 ≤ _ by omega) (by simp; omega) ?_; intro A3 c3 w3 hu3 hg3 ha3)
      go_roundw
      case rel => exact ⟨j + 1, hi, acc ++ [lo], by go_num, rfl, hhi, by omega, by simp [HAL.out], HFA.out.snoc HLO.out, by rw [fval_snoc, HAL.out]; exact HNX.out, by rw [List.map_append]; exact hu3, (HBR.out.alloc (by omega) _).grown hg3 (by simp; omega) (fun k hk => (HU2.out.lt k hk).1)⟩
      case measure => simp [intOf]; omega
    · obtain rfl : j = q := by omega
      have HVV := Lib.hid (show fval W64 (acc ++ [k]) = x + y by rw [fval_snoc, HAL.out, HINV.out, HXQ.out, HYQ.out])
      have t1 : decide ((j : Int) < j) = false := by simp
      have HK : Hid (k < W64) := Lib.hid (by unfold W64; omega)
      have HBKr : Hid (Blk wr (w.heap.size + 2) 26 #[.slice none 0 0]) := HBK.out.below HBE.out (by rw [HSZ.out]; omega)
      have hszw := HBE.out.size
      clear hlt
      go_wp2_with (at_builtin; refine wpList_app ei_u64 okW0 rfl (.tmp 36) (.tmp 38) rfl W0.heap.size _ _ _ rfl (HU6.out.below (below_new _ _)) _ _ _ _ _ rfl (RV.fresh wr 35 [wv k]) (fun u hu => by simp at hu; subst hu; rfl) (show j + 1 ≤ _ by omega) (show (j + 1) * 8 ≤ _ by omega) (by simp; omega) ?_; intro A3 c3 w3 hu3 hg3 ha3)
      obtain ⟨_, _, he3, hc3⟩ := hu3.shape
      injection he3 with _ _ he3
      subst he3
      have HB3 := Lib.hid (show Below W0.heap.size W0 w3 from (HBE.out.alloc (by omega) _).grown hg3 (by simp; omega) (fun k hk => (HU6.out.lt k hk).1))
      have HMD := Lib.hid (made_nat A3 (j + 1) _ (x + y) (acc ++ [k]) w3 (by simp [HAL.out]) (HFA.out.snoc HK.out) HVV.out (by rw [List.map_append]; exact RT.of_own hu3) hc3 (by omega))
      have HBK3 : Hid (Blk w3 (w.heap.size + 2) 26 #[.slice none 0 0]) := HBK.out.below HB3.out (by rw [HSZ.out]; omega)
      clear hu3 hg3 ha3 hc3
      refine HMD.out.mono ?_
      rintro e w4 ⟨v4, rfl, hv4, hb4⟩
      have HB4 := Lib.hid (keepb (keepb HB0.out HB3.out) hb4)
      have HBK4 : Hid (Blk w4 (w.heap.size + 2) 26 #[.slice none 0 0]) := HBK3.out.below hb4 HBK3.out.lt
      have HN := Lib.hid (bounded_any v4 (x + y) w4 hv4 HBX.out)
      obtain ⟨A4, n4, c4, rfl, _⟩ := hv4
      clear hb4
      go_wp2_with fail
      refine HN.out.mono ?_
      rintro e w5 h5
      obtain ⟨A5, n5, c5, er, rfl, hq5, hb5⟩ := h5.open
      have HB5 := Lib.hid (keepb HB4.out hb5)
      have HBK5 : Hid (Blk w5 (w.heap.size + 2) 26 #[.slice none 0 0]) := HBK4.out.below hb5 HBK4.out.lt
      have HQ := Lib.hid hq5
      have hc5 := HBK5.out.cell 0
      have hf5 := HBK5.out.frozen 0
      simp at hc5
      have hp := HBK5.out.put (i := 0) (by simp)
      clear h5 hq5 hb5
      go_wp2_with fail
      exact bodyPost_ret (v := .tuple #[.agg #[.slice A5 n5 c5], er]) (by simp [results, Tryd.results22, go_sem, hp]) rfl ((HQ.out.set HBK5.out (by decide) _).mk (HB5.out.setCell (by simp) _))
end Go.Proofs.YtgihkmofpncobaaDoor

namespace Go.Proofs.YtgihkmofpncobaaDoor
open Go.RowKit
set_option linter.unusedSimpArgs false
set_option linter.unusedVariables false

theorem NatL.word {w : World} {A : Option Addr} {n c x j : Nat} (h : NatL w A n c x) (hj : j < n) : ∃ g o, A = some ⟨g, o, none⟩ ∧ w.cell? ⟨g, o + j, none⟩ = some (wv (x / W64 ^ j % W64)) := by
  obtain ⟨l, hf, rfl, hr, _⟩ := h
  obtain ⟨g, o, hA, hc⟩ := hr.cell j (by simpa using hj)
  refine ⟨g, o, hA, ?_⟩
  rw [hc, List.getElem_map, ← hf.get j]
  simp [List.getD, hj]
theorem nsub_step {x y c X Y lo hi P B C : Nat} (h : lo + Y + c = X + W64 * hi) (hv : B + y = x + P * c) (hC : C = P * W64) : (B + P * lo) + (y + P * Y) = (x + P * X) + C * hi := by
  have e : P * lo + P * Y + P * c = P * X + P * (W64 * hi) := by rw [← Nat.mul_add, ← Nat.mul_add, h, Nat.mul_add]
  have e2 : C * hi = P * (W64 * hi) := by rw [hC, Nat.mul_assoc]
  rw [e2]
  omega
theorem cmpI_no {x y : Nat} (h : ¬ x < y) : decide (cmpI x y < 0) = false := by
  unfold cmpI
  by_cases he : x = y
  · rw [if_pos he]; rfl
  · rw [if_neg he, if_neg h]; rfl
theorem nsub_end {x y k B P : Nat} (h : B + y = x + P * k) (hB : B < P) (hxy : y ≤ x) : B = x - y := by
  cases k with
  | zero => rw [Nat.mul_zero] at h; omega
  | succ k => rw [Nat.mul_succ] at h; omega
theorem s_call3 {wr W w1 : World} {b c : Nat} {v u z : Value} {a : Addr} (h1 : W.cell? ⟨b, 0, none⟩ = some v) (h2 : W.cell? ⟨c, 0, none⟩ = some u) (h0 : W.cell? ⟨a.block, a.off, none⟩ = some z) (h3 : Below wr.heap.size wr W) (hz : b < wr.heap.size) (hz2 : c < wr.heap.size) (hz3 : a.block < wr.heap.size) (hb : Below W.heap.size W w1) :
    w1.cell? ⟨b, 0, none⟩ = some v ∧ w1.cell? ⟨c, 0, none⟩ = some u ∧ w1.cell? ⟨a.block, a.off, none⟩ = some z ∧ Below wr.heap.size wr w1 :=
  ⟨keepc hb (Nat.lt_of_lt_of_le hz h3.size) h1, keepc hb (Nat.lt_of_lt_of_le hz2 h3.size) h2, keepc hb (Nat.lt_of_lt_of_le hz3 h3.size) h0, keepb h3 hb⟩

/-- The row lies behind what was there. -/
def Fresh (B : Nat) (A : Option Addr) : Prop := ∀ g o, A = some ⟨g, o, none⟩ → B ≤ g
theorem OwnR.fresh {w : World} {base n c : Nat} {e : TypeId} {ok : Value → Prop} {A : Option Addr} {xs : List Value} (h : OwnR w base e ok (.slice A n c) n xs) : Fresh base A := fun g o hA => by
  rcases h.2 with ⟨hv, _⟩ | ⟨g', cap, rest, hv, hb, _⟩
  · rw [(Value.slice.inj hv).1] at hA; cases hA
  · rw [(Value.slice.inj hv).1] at hA
    injection hA with hA; injection hA with hA; omega
theorem NatL.set {w : World} {A : Option Addr} {n c x b i : Nat} {t : TypeId} {cs : Array Value} (h : NatL w A n c x) (hB : Blk w b t cs) (hne : 35 ≠ t) (u : Value) : NatL (w.setCell ⟨b, i, none⟩ u) A n c x := by
  obtain ⟨l, h1, h2, h3, h4⟩ := h
  exact ⟨l, h1, h2, h3.set hB hne u, h4⟩
theorem made_nat2 (A : Option Addr) (n c x : Nat) (m : List Nat) (w : World) (hl : m.length = n) (hf : Figs W64 m) (hv : fval W64 m = x) (hr : RT w 35 A (m.map wv)) (hc : n ≤ c) (hn : n ≤ 1000000000000) :
    Calls Tryd.prog 46 #[.slice A n c] w fun e w' => ∃ k, e = .returned (.agg #[.slice A k c]) ∧ NatL w' A k c x ∧ Below w.heap.size w w' := by
  subst hl hv
  refine (made_any A c m w hr hf hc hn).mono fun e w' h => ?_
  obtain ⟨k, rfl, hk, hf, hb⟩ := h
  refine ⟨k, rfl, ⟨m.take k, hf, by simp; omega, ?_, by omega⟩, hb⟩
  have := (hr.below hb).take k
  rwa [← List.map_take] at this
/-- A number in a row of its own. -/
def NatG (x : Nat) (w : World) (e : Ending) (w' : World) : Prop := ∃ A n c, e = .returned (.tuple #[.agg #[.slice A n c], .nilIface]) ∧ NatL w' A n c x ∧ Fresh w.heap.size A ∧ Below w.heap.size w w'
def NatS (x y : Nat) (w : World) (e : Ending) (w' : World) : Prop := if x < y then NatF 12 w e w' else NatG (x - y) w e w'

set_option maxRecDepth 100000 in
set_option maxHeartbeats 4000000 in
theorem sub_nat (v u : Value) (x y : Nat) (w : World) (hv : NatW w v x) (hu : NatW w u y) (hx : blen x ≤ 1000000) (hy : blen y ≤ 1000000) :
    Calls Tryd.prog 25 #[v, u] w (NatS x y w) := by
  have HV := Lib.hid hv
  have HU := Lib.hid hu
  have HCM := Lib.hid (fun W hb => cmp_nat v u x y W (hv.below hb) (hu.below hb) hx hy)
  obtain ⟨A, n, c, rfl, hl⟩ := hv
  obtain ⟨B, m, d, rfl, hk⟩ := hu
  have HL := Lib.hid hl
  have hn := natl_len hl
  have hxn : x < W64 ^ n := by obtain ⟨l, h1, rfl, _⟩ := hl; exact h1.lt
  have hn1 : n ≤ 20000 := by omega
  have HXN := Lib.hid hxn
  clear hl hk hn hxn hx hy
  go_enter Tryd.func25, Tryd.ntmps25
  go_wp2_with fail
  obtain ⟨W0, hW0⟩ : ∃ W0, W0 = ((w.alloc (.cells #[.slice A n c] 26)).alloc (.cells #[.slice B m d] 26)).alloc (.cells #[.slice none 0 0] 26) := ⟨_, rfl⟩
  have hb0 : Below w.heap.size w W0 := by rw [hW0]; go_grown
  have hsz : W0.heap.size = w.heap.size + 1 + 1 + 1 := by rw [hW0]; simp
  have ca : W0.cell? ⟨w.heap.size, 0, none⟩ = some (.slice A n c) := by rw [hW0]; exact (boxes3 w _ _ _ _).1
  have cb : W0.cell? ⟨w.heap.size + 1, 0, none⟩ = some (.slice B m d) := by rw [hW0]; exact (boxes3 w _ _ _ _).2
  have hbk : Blk W0 (w.heap.size + 2) 26 #[.slice none 0 0] := by
    have := Blk.new ((w.alloc (.cells #[.slice A n c] 26)).alloc (.cells #[.slice B m d] 26)) 26 #[.slice none 0 0]
    simp only [World.size_alloc] at this
    rw [hW0]; exact this
  rw [← hW0]
  have HB0 := Lib.hid hb0
  have HSZ := Lib.hid hsz
  have HA := Lib.hid ca
  have HB := Lib.hid cb
  have HBK := Lib.hid hbk
  clear hW0 hb0 hsz ca cb hbk
  refine (HCM.out _ HB0.out).mono ?_
  rintro e w1 ⟨rfl, hb1⟩
  have HB1 := Lib.hid (keepb HB0.out hb1)
  have ca := keepc hb1 (by rw [HSZ.out]; omega) HA.out
  have cb := keepc hb1 (by rw [HSZ.out]; omega) HB.out
  have HBK1 : Hid (Blk w1 (w.heap.size + 2) 26 #[.slice none 0 0]) := HBK.out.below hb1 (by rw [HSZ.out]; omega)
  have hsz1 : w.heap.size + 1 + 1 + 1 ≤ w1.heap.size := by have := hb1.size; rw [HSZ.out] at this; exact this
  clear hb1
  by_cases hxy : x < y
  · have hc : cmpI x y = -1 := by unfold cmpI; rw [if_neg (by omega), if_pos hxy]
    rw [hc]
    have HP : Hid (NatS x y w = NatF 12 w) := by funext e w'; unfold NatS; rw [if_pos hxy]
    have hp := HBK1.out.put (i := 0) (by simp)
    have hc1 := HBK1.out.cell 0
    have hf1 := HBK1.out.frozen 0
    simp at hc1
    clear hc hxy
    go_wp2_with fail
    exact bodyPost_ret (v := .tuple #[.agg #[.slice none 0 0], enoV 12]) (by simp [results, Tryd.results25, go_sem, hp]) rfl (by rw [HP.out]; exact ⟨rfl, HB1.out.setCell (show w.heap.size ≤ w.heap.size + 2 by omega) _⟩)
  · have HP : Hid (NatS x y w = NatG (x - y) w) := by funext e w'; unfold NatS; rw [if_neg hxy]
    have tc : decide (cmpI x y < 0) = false := cmpI_no hxy
    have HXY := Lib.hid (show y ≤ x by omega)
    clear hxy
    generalize cmpI x y = cm at *
    have HA1 := Lib.hid ca
    have HB1c := Lib.hid cb
    clear cb
    go_wp2_with fail
    clear ca
    go_loopw [6, 7, 19] (fun s6 s7 s19 wr => ∃ (j k : Nat) (acc : List Nat), s19 = .int .i64 j ∧ s7 = wv k ∧ k ≤ 1 ∧ j ≤ n ∧ acc.length = j ∧ Figs W64 acc ∧ fval W64 acc + y % W64 ^ j = x % W64 ^ j + W64 ^ j * k ∧
        OwnR wr w1.heap.size 35 okW s6 j (acc.map wv) ∧ Below w1.heap.size w1 wr) (fun _ _ s _ => n - (intOf s).toNat)
    case atStart => exact ⟨0, 0, [], rfl, rfl, by omega, by omega, rfl, Figs.nil _, by simp [fval, Nat.mod_one], OwnR.nil _ _ _ _, Below.refl _ _⟩
    case round =>
      obtain ⟨j, k, acc, rfl, rfl, hk1, hj, hal, hfa, hinv, hu6, hbel⟩ := hrel
      obtain ⟨A6, c6, hsh, _⟩ := hu6.shape
      subst hsh
      have HAL := Lib.hid hal
      have HFA := Lib.hid hfa
      have HINV := Lib.hid hinv
      have HU6 := Lib.hid hu6
      have HBE := Lib.hid hbel
      have ca := keepc hbel (by omega) HA1.out
      have cb := keepc hbel (by omega) HB1c.out
      have hszr : w.heap.size + 1 + 1 + 1 ≤ wr.heap.size := by have := hbel.size; omega
      have HBW : Hid (Below w.heap.size w wr) := keepb HB1.out HBE.out
      clear hal hfa hinv hu6 hbel
      by_cases hlt : j < n
      · have HWY := Lib.hid (fun W hb => word_nat _ y j W (HU.out.below hb) (by omega))
        have HXM : Hid (x % W64 ^ (j + 1) = x % W64 ^ j + W64 ^ j * (x / W64 ^ j % W64)) := Nat.mod_pow_succ
        have HYM : Hid (y % W64 ^ (j + 1) = y % W64 ^ j + W64 ^ j * (y / W64 ^ j % W64)) := Nat.mod_pow_succ
        have hX : x / W64 ^ j % W64 < W64 := Nat.mod_lt _ (by unfold W64; omega)
        have hY : y / W64 ^ j % W64 < W64 := Nat.mod_lt _ (by unfold W64; omega)
        have HX := Lib.hid hX
        have HY := Lib.hid hY
        have t1 : decide ((j : Int) < n) = true := by simp; omega
        have t1' : decide (j < n) = true := by simp; omega
        have hlx : (j : Int) < n := by omega
        obtain ⟨g, o, rfl, hcx⟩ := (HL.out.below HBW.out).word hlt
        clear hX hY
        generalize x / W64 ^ j % W64 = X at *
        generalize y / W64 ^ j % W64 = Y at *
        have cad := fun W => call_sub X Y k hk1 W
        have HADD := Lib.hid (sub_eq HX.out HY.out hk1)
        have HLO := Lib.hid (subLo_lt X Y k)
        have hhi := subHi_le X Y k
        have hz1 : w.heap.size < wr.heap.size := by omega
        have hz2 : w.heap.size + 1 < wr.heap.size := by omega
        have hz3 : g < wr.heap.size := World.block_lt_of_cell? _ _ hcx
        have hbr : Below wr.heap.size wr wr := Below.refl _ _
        generalize subLo X Y k = lo at *
        generalize subHi X Y k = hi at *
        have HNX := Lib.hid (nsub_step HADD.out HINV.out (Nat.pow_succ W64 j))
        rw [← HXM.out, ← HYM.out] at HNX
        go_wp2_with fail
        go_region_held3 (fun w' => w'.cell? ⟨w.heap.size, 0, none⟩ = some (.slice (some ⟨g, o, none⟩) n c) ∧ w'.cell? ⟨w.heap.size + 1, 0, none⟩ = some (.slice B m d) ∧ w'.cell? ⟨g, o + j, none⟩ = some (wv X) ∧ Below wr.heap.size wr w')
          (first
            | (go_keep; done)
            | (go_split_ands; exact s_call3 (a := ⟨g, o + j, none⟩) (by assumption) (by assumption) (by assumption) (by assumption) hz1 hz2 hz3 hbn)
            | (go_split_ands; refine ⟨by assumption, by assumption, by assumption, ?_⟩; exact below_drewN (by assumption) 1))
          (first
            | (go_at_call_of 48 (Value.agg #[Value.slice B m d]); go_split_ands; refine (HWY.out _ (keepb HBW.out (by assumption))).mono ?_; rintro e w' ⟨rfl, hbn⟩))
        go_split_ands
        have hbw : Below wr.heap.size wr w' := by assumption
        have HBR := Lib.hid (keepb HBE.out hbw)
        have HU2 := Lib.hid (HU6.out.below hbw)
        have hszw := HBR.out.size
        clear hbw
        go_wp2_with (at_builtin; refine wpList_app ei_u64 okW0 rfl (.tmp 35) (.tmp 37) rfl w1.heap.size _ _ _ rfl (HU2.out.below (below_new _ _)) _ _ _ _ _ rfl (RV.fresh w' 35 [wv lo]) (fun u hu => by simp at hu; subst hu; rfl) (show j + 1 ≤ _ by omega) (show (j + 1) * 8 ≤ _ by omega) (by simp; omega) ?_; intro A3 c3 w3 hu3 hg3 ha3)
        go_roundw
        case rel => exact ⟨j + 1, hi, acc ++ [lo], by go_num, rfl, hhi, by omega, by simp [HAL.out], HFA.out.snoc HLO.out, by rw [fval_snoc, HAL.out]; exact HNX.out, by rw [List.map_append]; exact hu3, (HBR.out.alloc (by omega) _).grown hg3 (by simp; omega) (fun k hk => (HU2.out.lt k hk).1)⟩
        case measure => simp [intOf]; omega
      · obtain rfl : j = n := by omega
        have HVV := Lib.hid (show fval W64 acc = x - y from nsub_end (P := W64 ^ j) (k := k) (by
          have h1 := HINV.out
          have h2 : y % W64 ^ j = y := Nat.mod_eq_of_lt (Nat.lt_of_le_of_lt HXY.out HXN.out)
          have h3 : x % W64 ^ j = x := Nat.mod_eq_of_lt HXN.out
          rw [h2, h3] at h1; exact h1) (by have := fval_lt HFA.out; rw [HAL.out] at this; exact this) HXY.out)
        have t1 : decide ((j : Int) < j) = false := by simp
        have hc3 : j ≤ c6 := by
          obtain ⟨_, _, he3, hc3⟩ := HU6.out.shape
          injection he3 with _ _ he3
        have HMD := Lib.hid (made_nat2 A6 j c6 (x - y) acc wr HAL.out HFA.out HVV.out (RT.of_own HU6.out) hc3 (by omega))
        have HBKr : Hid (Blk wr (w.heap.size + 2) 26 #[.slice none 0 0]) := HBK1.out.below HBE.out (by omega)
        clear hlt hc3
        go_wp2_with fail
        have HFR : Hid (Fresh w.heap.size A6) := Lib.hid (fun g o h => Nat.le_trans HB1.out.size (HU6.out.fresh g o h))
        refine HMD.out.mono ?_
        rintro e w4 ⟨n4, rfl, hl4, hb4⟩
        have HB4 := Lib.hid (keepb HBW.out hb4)
        have HBK4 : Hid (Blk w4 (w.heap.size + 2) 26 #[.slice none 0 0]) := HBKr.out.below hb4 HBKr.out.lt
        have HV4 := Lib.hid hl4
        have hc5 := HBK4.out.cell 0
        have hf5 := HBK4.out.frozen 0
        simp at hc5
        have hp := HBK4.out.put (i := 0) (by simp)
        clear hb4 hl4
        go_wp2_with fail
        exact bodyPost_ret (v := .tuple #[.agg #[.slice A6 n4 c6], .nilIface]) (by simp [results, Tryd.results25, go_sem, hp]) rfl (by rw [HP.out]; exact ⟨_, _, _, rfl, HV4.out.set HBK4.out (by decide) _, HFR.out, HB4.out.setCell (show w.heap.size ≤ w.heap.size + 2 by omega) _⟩)
end Go.Proofs.YtgihkmofpncobaaDoor

namespace Go.Proofs.YtgihkmofpncobaaDoor
open Go.RowKit
set_option linter.unusedSimpArgs false
set_option linter.unusedVariables false

theorem fval_set (q : Nat) : ∀ (l : List Nat) (t v : Nat), t < l.length → fval q (l.set t v) + q ^ t * l.getD t 0 = fval q l + q ^ t * v
  | [], t, v, h => by simp at h
  | d :: l, 0, v, h => by simp [fval_cons]; omega
  | d :: l, t + 1, v, h => by
    have h1 := fval_set q l t v (by simpa using h)
    have h2 : (d :: l).getD (t + 1) 0 = l.getD t 0 := by simp [List.getD]
    rw [h2, List.set_cons_succ, fval_cons, fval_cons, Nat.pow_succ, Nat.mul_comm (q ^ t) q, Nat.mul_assoc, Nat.mul_assoc, Nat.add_assoc, Nat.add_assoc, ← Nat.mul_add, ← Nat.mul_add, h1]
theorem mul_top {x y : Nat} (hx : x < W64) (hy : y < W64) (o c : Nat) (ho : o < W64) (hc : c < W64) : x * y + o + c < W64 * W64 := by
  have h : x * y ≤ (W64 - 1) * (W64 - 1) := Nat.mul_le_mul (by omega) (by omega)
  unfold W64 at *
  omega
theorem nmul_step {XY hi lo1 o lo2 c1 more lo3 c2 F F' PX P : Nat} (h1 : XY = W64 * hi + lo1) (h2 : lo2 + W64 * c1 = lo1 + o + 0) (h3 : lo3 + W64 * c2 = lo2 + more + 0) (hs : F' + P * o = F + P * lo3)
    (hi' : F + P * more = PX) : F' + P * W64 * (hi + c1 + c2) = PX + P * XY := by
  have e : lo3 + W64 * (hi + c1 + c2) = XY + o + more := by rw [Nat.mul_add, Nat.mul_add]; omega
  have e2 : P * lo3 + P * W64 * (hi + c1 + c2) = P * XY + P * o + P * more := by rw [Nat.mul_assoc, ← Nat.mul_add, e, Nat.mul_add, Nat.mul_add]
  omega
theorem blen_times {x y a b : Nat} (hx : blen x ≤ a) (hy : blen y ≤ b) : blen (x * y) ≤ a + b :=
  blen_le.2 (by rw [Nat.pow_add]; exact Nat.mul_lt_mul'' (blen_le.1 hx) (blen_le.1 hy))
theorem getD_zero {M : List Nat} (hf : Figs W64 M) {t : Nat} (h : fval W64 M < W64 ^ t) : M.getD t 0 = 0 := by
  rw [← fval_get hf t, Nat.div_eq_of_lt h, Nat.zero_mod]
theorem zs_fig (n : Nat) : (zs (.int .u64 0) n).toArray = ((List.replicate n 0).map wv).toArray := by unfold zs; rw [List.map_replicate]; rfl
theorem set_wv (M : List Nat) (t v : Nat) : ((M.map wv).toArray.setIfInBounds t (wv v)) = ((M.set t v).map wv).toArray := by rw [List.setIfInBounds_toArray, List.map_set]
theorem blk_fig {W : World} {g t : Nat} {M : List Nat} (h : Blk W g 35 (M.map wv).toArray) (ht : t < M.length) : W.cell? ⟨g, t, none⟩ = some (wv (M.getD t 0)) := by
  rw [h.cell, List.getElem?_toArray, List.getElem?_map, List.getElem?_eq_getElem ht]
  simp [List.getD, ht]

set_option maxRecDepth 100000 in
set_option maxHeartbeats 4000000 in
theorem mul_nat (v u : Value) (x y : Nat) (w : World) (hv : NatW w v x) (hu : NatW w u y) (hx : blen x ≤ 400000) (hy : blen y ≤ 400000) :
    Calls Tryd.prog 28 #[v, u] w (NatB (x * y) w) := by
  obtain ⟨A, n, c, rfl, hl⟩ := hv
  obtain ⟨B, m, d, rfl, hk⟩ := hu
  have HL := Lib.hid hl
  have HK := Lib.hid hk
  have hn := natl_len hl
  have hm := natl_len hk
  have hxn : x < W64 ^ n := by obtain ⟨l, h1, rfl, _⟩ := hl; exact h1.lt
  have hym : y < W64 ^ m := by obtain ⟨l, h1, rfl, _⟩ := hk; exact h1.lt
  have HXN := Lib.hid (Nat.mod_eq_of_lt hxn)
  have HYM := Lib.hid (Nat.mod_eq_of_lt hym)
  have HYL := Lib.hid hym
  have hn1 : n ≤ 10000 := by omega
  have hm1 : m ≤ 10000 := by omega
  have HBX := Lib.hid (Nat.le_trans (blen_times hx hy) (show 400000 + 400000 ≤ 1000000 by decide))
  have hmk := fun W => run_mk ei_u64 .i64 .i64 (n + m + 1) (n + m + 1) (Nat.le_refl _) (by omega) (by omega) W
  have e2 : ((n + m + 1 : Nat) : Int) = (n : Int) + (m : Int) + 1 := by omega
  rw [e2] at hmk
  have hni : (n : Int) ≤ 10000 := by omega
  have hmi : (m : Int) ≤ 10000 := by omega
  clear hl hk hn hm hxn hym hx hy e2
  go_enter Tryd.func28, Tryd.ntmps28
  go_wp2_with fail
  obtain ⟨W0, hW0⟩ : ∃ W0, W0 = ((w.alloc (.cells #[.slice A n c] 26)).alloc (.cells #[.slice B m d] 26)).alloc (.cells #[.slice none 0 0] 26) := ⟨_, rfl⟩
  have hb0 : Below w.heap.size w W0 := by rw [hW0]; go_grown
  have hsz : W0.heap.size = w.heap.size + 1 + 1 + 1 := by rw [hW0]; simp
  have ca : W0.cell? ⟨w.heap.size, 0, none⟩ = some (.slice A n c) := by rw [hW0]; exact (boxes3 w _ _ _ _).1
  have cb : W0.cell? ⟨w.heap.size + 1, 0, none⟩ = some (.slice B m d) := by rw [hW0]; exact (boxes3 w _ _ _ _).2
  have hbk : Blk W0 (w.heap.size + 2) 26 #[.slice none 0 0] := by
    have := Blk.new ((w.alloc (.cells #[.slice A n c] 26)).alloc (.cells #[.slice B m d] 26)) 26 #[.slice none 0 0]
    simp only [World.size_alloc] at this
    rw [hW0]; exact this
  rw [← hW0]
  have HB0 := Lib.hid hb0
  have HSZ := Lib.hid hsz
  have HA := Lib.hid ca
  have HB := Lib.hid cb
  have HBK := Lib.hid hbk
  clear hW0 hb0 hsz ca cb hbk
  obtain ⟨g0, hg0⟩ : ∃ g0, g0 = W0.heap.size := ⟨_, rfl⟩
  have hg3 : w.heap.size + 1 + 1 + 1 = g0 := by rw [hg0, HSZ.out]
  have HBO := Lib.hid (show Blk (W0.alloc (.cells (zs (.int .u64 0) (n + m + 1)).toArray 35)) g0 35 ((List.replicate (n + m + 1) 0).map wv).toArray by rw [hg0, ← zs_fig]; exact Blk.new _ _ _)
  have HG0 := Lib.hid hg0
  have HG3 := Lib.hid hg3
  simp only [hg3]
  clear hg0
  go_loopw [27] (fun s27 wr => ∃ (j : Nat) (M : List Nat), s27 = .int .i64 j ∧ j ≤ n ∧ M.length = n + m + 1 ∧ Figs W64 M ∧ fval W64 M = x % W64 ^ j * y ∧ Blk wr g0 35 (M.map wv).toArray ∧ Below W0.heap.size W0 wr) (fun s _ => n - (intOf s).toNat)
  case atStart => exact ⟨0, List.replicate (n + m + 1) 0, rfl, by omega, by simp, fun d hd => by rw [(List.mem_replicate.1 hd).2]; unfold W64; omega, by rw [fval_zero (fun d hd => (List.mem_replicate.1 hd).2)]; simp [Nat.mod_one], HBO.out, below_new _ _⟩
  case round =>
    obtain ⟨j, M, rfl, hj, hml, hmf, hmv, hblk, hbel⟩ := hrel
    obtain ⟨wo, rfl⟩ : ∃ wo : World, wo = wr := ⟨_, rfl⟩
    have HML := Lib.hid hml
    have HMF := Lib.hid hmf
    have HMV := Lib.hid hmv
    have HBL := Lib.hid hblk
    have HBE := Lib.hid hbel
    have hzo := hbel.size
    have hlt0 := hblk.lt
    rw [HSZ.out] at hzo
    have HBWo : Hid (Below w.heap.size w wo) := Lib.hid (keepb HB0.out hbel)
    clear hml hmf hmv hblk hbel
    by_cases hlt : j < n
    · obtain ⟨g, o, rfl, hcx⟩ := (HL.out.below HBWo.out).word hlt
      have HXM : Hid (x % W64 ^ (j + 1) = x % W64 ^ j + W64 ^ j * (x / W64 ^ j % W64)) := Nat.mod_pow_succ
      have hX : x / W64 ^ j % W64 < W64 := Nat.mod_lt _ (by unfold W64; omega)
      have HX := Lib.hid hX
      have t1 : decide ((j : Int) < n) = true := by simp; omega
      have t1' : decide (j < n) = true := by simp; omega
      have hlx : (j : Int) < n := by omega
      have cb := keepc HBE.out (by rw [HSZ.out]; omega) HB.out
      have HTOP := Lib.hid (getD_zero HMF.out (t := j + m) (by
        rw [HMV.out, Nat.pow_add]
        exact Nat.mul_lt_mul'' (Nat.mod_lt _ (Nat.pow_pos (by unfold W64; omega))) HYL.out))
      clear hX
      generalize x / W64 ^ j % W64 = X at *
      go_wp2_with fail
      go_loopw [9, 35] (fun s9 s35 wr => ∃ (k more : Nat) (N : List Nat), s9 = wv more ∧ s35 = .int .i64 k ∧ k ≤ m ∧ more < W64 ∧ N.length = n + m + 1 ∧ Figs W64 N ∧ fval W64 N + W64 ^ (j + k) * more = x % W64 ^ j * y + W64 ^ j * X * (y % W64 ^ k) ∧ N.getD (j + m) 0 = 0 ∧
          Blk wr g0 35 (N.map wv).toArray ∧ Below W0.heap.size W0 wr) (fun _ s _ => m - (intOf s).toNat)
      case atStart => exact ⟨0, 0, M, rfl, rfl, by omega, by unfold W64; omega, HML.out, HMF.out, by rw [HMV.out, Nat.mul_zero, Nat.pow_zero, Nat.mod_one, Nat.mul_zero], HTOP.out, HBL.out, HBE.out⟩
      case round =>
        obtain ⟨k, more, N, rfl, rfl, hk, hmore, hnl, hnf, hnv, hntop, hblk, hbel⟩ := hrel
        have HMO := Lib.hid hmore
        have HNL := Lib.hid hnl
        have HNF := Lib.hid hnf
        have HNV := Lib.hid hnv
        have HNT := Lib.hid hntop
        have HBN := Lib.hid hblk
        have HBEN := Lib.hid hbel
        have hzr := hbel.size
        rw [HSZ.out] at hzr
        have HBWr : Hid (Below w.heap.size w wr) := Lib.hid (keepb HB0.out hbel)
        have cb := keepc hbel (by rw [HSZ.out]; omega) HB.out
        clear hmore hnl hnf hnv hntop hblk hbel
        by_cases hlk : k < m
        · obtain ⟨h, p, rfl, hcy⟩ := (HK.out.below HBWr.out).word hlk
          have HYMk : Hid (y % W64 ^ (k + 1) = y % W64 ^ k + W64 ^ k * (y / W64 ^ k % W64)) := Nat.mod_pow_succ
          have hY : y / W64 ^ k % W64 < W64 := Nat.mod_lt _ (by unfold W64; omega)
          have HY := Lib.hid hY
          have t2 : decide ((k : Int) < m) = true := by simp; omega
          have t2' : decide (k < m) = true := by simp; omega
          have hly : (k : Int) < m := by omega
          have hto : j + k < n + m + 1 := by omega
          have hti : (j : Int) + (k : Int) < (n : Int) + (m : Int) + 1 := by omega
          have hO : N.getD (j + k) 0 < W64 := HNF.out.get (by unfold W64; omega)
          have HO := Lib.hid hO
          have hcO := blk_fig HBN.out (t := j + k) (by rw [HNL.out]; omega)
          have hfO := HBN.out.frozen (j + k)
          have HFS := Lib.hid (fun v => fval_set W64 N (j + k) v (by rw [HNL.out]; omega))
          clear hY hO
          generalize y / W64 ^ k % W64 = Y at *
          generalize N.getD (j + k) 0 = ov at *
          have HM64 := Lib.hid (fun W => mul64 X Y HX.out HY.out W)
          have HH := Lib.hid (mul_lt HX.out HY.out)
          have HE := Lib.hid (Nat.div_add_mod (X * Y) W64).symm
          have HTT := Lib.hid (mul_top HX.out HY.out ov more HO.out HMO.out)
          have hlo : X * Y % W64 < W64 := Nat.mod_lt _ (by unfold W64; omega)
          have HLO := Lib.hid hlo
          clear hlo
          generalize X * Y / W64 = hi at *
          generalize X * Y % W64 = lo at *
          have ca1 := fun W => call_add0 lo ov W
          have HA1 := Lib.hid (add_eq lo ov 0)
          have HL1 := Lib.hid (addLo_lt lo ov 0)
          have HC1 := Lib.hid (addHi_le HLO.out HO.out (show 0 ≤ 1 by omega))
          generalize addLo lo ov 0 = lo2 at *
          generalize addHi lo ov 0 = c1 at *
          have ca2 := fun W => call_add0 lo2 more W
          have HA2 := Lib.hid (add_eq lo2 more 0)
          have HL2 := Lib.hid (addLo_lt lo2 more 0)
          have HC2 := Lib.hid (addHi_le HL1.out HMO.out (show 0 ≤ 1 by omega))
          generalize addLo lo2 more 0 = lo3 at *
          generalize addHi lo2 more 0 = c2 at *
          have hb1 : hi + c1 < W64 := by have := HH.out; have := HC1.out; unfold W64 at *; omega
          have hb2 : hi + c1 + c2 < W64 := by
            have h1 := HTT.out; have h2 := HE.out; have h3 := HA1.out; have h4 := HA2.out
            unfold W64 at *; omega
          have hs1 : IntKind.u64.wrap ((hi : Int) + (c1 : Int)) = ((hi + c1 : Nat) : Int) := by rw [← Int.natCast_add]; exact wrapN _ hb1
          have hs2 : IntKind.u64.wrap (((hi + c1 : Nat) : Int) + (c2 : Int)) = ((hi + c1 + c2 : Nat) : Int) := by rw [← Int.natCast_add]; exact wrapN _ hb2
          have HBB2 := Lib.hid hb2
          have HB2 := Lib.hid (show Blk _ g0 35 ((N.set (j + k) lo3).map wv).toArray by rw [← set_wv]; exact HBN.out.set1 (j + k) (wv lo3))
          clear hb1 hb2
          obtain ⟨h1, hh1⟩ : ∃ h1, h1 = hi + c1 := ⟨_, rfl⟩
          obtain ⟨h2, hh2⟩ : ∃ h2, h2 = hi + c1 + c2 := ⟨_, rfl⟩
          have HH2 := Lib.hid hh2
          rw [← hh2, ← hh1] at hs2
          rw [← hh1] at hs1
          clear hh1 hh2
          go_wp2_with fail
          refine (HM64.out _).mono ?_
          rintro e w' ⟨rfl, rfl⟩
          go_wp2_with fail
          go_roundw
          case rel =>
            have HFS3 := HFS.out lo3
            refine ⟨k + 1, h2, N.set (j + k) lo3, rfl, by go_num, by omega, by rw [HH2.out]; exact HBB2.out, by simpa using HNL.out, HNF.out.set HL2.out, ?_, ?_, HB2.out, HBEN.out.setCell (Nat.le_of_eq HG0.out.symm) _⟩
            · rw [HYMk.out, HH2.out]
              have h3 := nmul_step HE.out HA1.out HA2.out HFS3 HNV.out
              have h4 : W64 ^ (j + (k + 1)) = W64 ^ (j + k) * W64 := by rw [← Nat.add_assoc, Nat.pow_succ]
              have h5 : W64 ^ (j + k) * (X * Y) = W64 ^ j * X * (W64 ^ k * Y) := by rw [Nat.pow_add]; ac_rfl
              rw [h4, h3, h5, Nat.mul_add (W64 ^ j * X), Nat.add_assoc]
            · rw [List.getD_eq_getElem?_getD, List.getElem?_set_ne (by omega), ← List.getD_eq_getElem?_getD]; exact HNT.out
          case measure => simp [intOf]; omega
        · obtain rfl : k = m := by omega
          have t2 : decide ((k : Int) < k) = false := by simp
          have hti : (j : Int) + (k : Int) < (n : Int) + (k : Int) + 1 := by omega
          have hto : j + k < n + k + 1 := by omega
          have hcO := blk_fig HBN.out (t := j + k) (by rw [HNL.out]; omega)
          have hfO := HBN.out.frozen (j + k)
          have hcT := HNT.out
          rw [hcT] at hcO
          have HFS := Lib.hid (fval_set W64 N (j + k) more (by rw [HNL.out]; omega))
          have HB2 := Lib.hid (show Blk _ g0 35 ((N.set (j + k) more).map wv).toArray by rw [← set_wv]; exact HBN.out.set1 (j + k) (wv more))
          clear hcT
          go_wp2_with fail
          go_roundw
          case rel =>
            refine ⟨j + 1, N.set (j + k) more, by go_num, by omega, by simpa using HNL.out, HNF.out.set HMO.out, ?_, HB2.out, HBEN.out.setCell (Nat.le_of_eq HG0.out.symm) _⟩
            have h1 := HFS.out
            rw [HNT.out, Nat.mul_zero, Nat.add_zero] at h1
            rw [h1, HNV.out, HYM.out, HXM.out, Nat.add_mul]
          case measure => simp [intOf]; omega
    · obtain rfl : j = n := by omega
      have t1 : decide ((j : Int) < j) = false := by simp
      have HVV := Lib.hid (show fval W64 M = x * y by rw [HMV.out, HXN.out])
      have HRT := Lib.hid (show RT wo 35 (some ⟨g0, 0, none⟩) (M.map wv) from RT.of_blk HBL.out (fun t ht => by rw [Nat.zero_add, List.getElem?_toArray, List.getElem?_eq_getElem ht]))
      have HMD := Lib.hid (made_nat (some ⟨g0, 0, none⟩) (j + m + 1) (j + m + 1) (x * y) M wo HML.out HMF.out HVV.out HRT.out (Nat.le_refl _) (by omega))
      have HBKr : Hid (Blk wo (w.heap.size + 2) 26 #[.slice none 0 0]) := HBK.out.below HBE.out (by rw [HSZ.out]; omega)
      clear hlt
      go_wp2_with fail
      refine HMD.out.mono ?_
      rintro e w4 ⟨v4, rfl, hv4, hb4⟩
      have HB4 := Lib.hid (keepb HBWo.out hb4)
      have HBK4 : Hid (Blk w4 (w.heap.size + 2) 26 #[.slice none 0 0]) := HBKr.out.below hb4 HBKr.out.lt
      have HN := Lib.hid (bounded_any v4 (x * y) w4 hv4 HBX.out)
      obtain ⟨A4, n4, c4, rfl, _⟩ := hv4
      clear hb4
      go_wp2_with fail
      refine HN.out.mono ?_
      rintro e w5 h5
      obtain ⟨A5, n5, c5, er, rfl, hq5, hb5⟩ := h5.open
      have HB5 := Lib.hid (keepb HB4.out hb5)
      have HBK5 : Hid (Blk w5 (w.heap.size + 2) 26 #[.slice none 0 0]) := HBK4.out.below hb5 HBK4.out.lt
      have HQ := Lib.hid hq5
      have hc5 := HBK5.out.cell 0
      have hf5 := HBK5.out.frozen 0
      simp at hc5
      have hp := HBK5.out.put (i := 0) (by simp)
      clear h5 hq5 hb5
      go_wp2_with fail
      exact bodyPost_ret (v := .tuple #[.agg #[.slice A5 n5 c5], er]) (by simp [results, Tryd.results28, go_sem, hp]) rfl ((HQ.out.set HBK5.out (by decide) _).mk (HB5.out.setCell (show w.heap.size ≤ w.heap.size + 2 by omega) _))
end Go.Proofs.YtgihkmofpncobaaDoor

namespace Go.Proofs.YtgihkmofpncobaaDoor
open Go.RowKit
set_option linter.unusedVariables false

/-- A box, the row that it holds, the number that this is. -/
abbrev Bx := Nat × Option Addr × Nat × Nat × Nat
def St (w : World) (l : List Bx) : Prop := ∀ e ∈ l, w.cell? ⟨e.1, 0, none⟩ = some (.slice e.2.1 e.2.2.1 e.2.2.2.1) ∧ e.1 < w.heap.size ∧ NatL w e.2.1 e.2.2.1 e.2.2.2.1 e.2.2.2.2
section
variable {w w' : World} {l : List Bx} {A : Option Addr} {b n c x : Nat}
theorem St.nil (w : World) : St w [] := fun _ h => by cases h
theorem St.below (h : St w l) (hb : Below w.heap.size w w') : St w' l := fun e he => by
  obtain ⟨h1, h2, h3⟩ := h e he
  exact ⟨keepc hb h2 h1, Nat.lt_of_lt_of_le h2 hb.size, h3.below hb⟩
theorem St.step (h : St w l) (hb : Below w.heap.size w w') (hl : NatL w' A n c x) : St (w'.alloc (.cells #[.slice A n c] 26)) ((w'.heap.size, A, n, c, x) :: l) := fun e he => by
  rcases List.mem_cons.1 he with rfl | he
  · exact ⟨by have := (Blk.new w' 26 #[.slice A n c]).cell 0; exact this.trans rfl, by simp, hl.below (below_new _ _)⟩
  · exact (h.below hb).below (below_new _ _) e he
theorem St.step2 {B : Option Addr} {m d y : Nat} (h : St w l) (hb : Below w.heap.size w w') (hl : NatL w' A n c x) (hk : NatL w' B m d y) :
    St ((w'.alloc (.cells #[.slice A n c] 26)).alloc (.cells #[.slice B m d] 26)) ((w'.heap.size + 1, B, m, d, y) :: (w'.heap.size, A, n, c, x) :: l) := by
  have h2 := (h.step hb hl).step (Below.refl _ _) (hk.below (below_new w' (.cells #[.slice A n c] 26)))
  rwa [World.size_alloc] at h2
theorem St.box (h : St w l) (i : Nat) (hm : l[i]? = some (b, A, n, c, x)) : w.cell? ⟨b, 0, none⟩ = some (.slice A n c) := (h _ (List.mem_of_getElem? hm)).1
theorem St.nat (h : St w l) (i : Nat) (hm : l[i]? = some (b, A, n, c, x)) (hb : Below w.heap.size w w') : NatW w' (.agg #[.slice A n c]) x := ⟨A, n, c, rfl, (h _ (List.mem_of_getElem? hm)).2.2.below hb⟩
end
theorem NatB.small {x : Nat} {w w' : World} {e : Ending} (h : NatB x w e w') (hx : blen x ≤ 8192) : ∃ A n c, e = .returned (.tuple #[.agg #[.slice A n c], .nilIface]) ∧ NatL w' A n c x ∧ Below w.heap.size w w' := by
  unfold NatB at h
  rw [if_pos hx] at h
  obtain ⟨v, rfl, ⟨A, n, c, rfl, hl⟩, hb⟩ := h
  exact ⟨A, n, c, rfl, hl, hb⟩
theorem NatS.yes {x y : Nat} {w w' : World} {e : Ending} (h : NatS x y w e w') (hx : y ≤ x) : ∃ A n c, e = .returned (.tuple #[.agg #[.slice A n c], .nilIface]) ∧ NatL w' A n c (x - y) ∧ Below w.heap.size w w' := by
  unfold NatS at h
  rw [if_neg (by omega)] at h
  obtain ⟨A, n, c, rfl, hl, _, hb⟩ := h
  exact ⟨A, n, c, rfl, hl, hb⟩
theorem NatS.own {x y : Nat} {w w' : World} {e : Ending} (h : NatS x y w e w') (hx : y ≤ x) : NatG (x - y) w e w' := by
  unfold NatS at h
  rwa [if_neg (by omega)] at h
end Go.Proofs.YtgihkmofpncobaaDoor

namespace Go.Proofs.YtgihkmofpncobaaDoor
open Go.RowKit
set_option linter.unusedSimpArgs false
set_option linter.unusedVariables false

set_option maxRecDepth 100000 in
theorem word_big (v : Value) (x i : Nat) (w : World) (hv : NatW w v x) (hi : i ≤ 1000000000000000000) :
    Calls Tryd.prog 48 #[v, .int .i64 (i : Int)] w fun e w' => e = .returned (wv (x / W64 ^ i % W64)) ∧ Below w.heap.size w w' := by
  obtain ⟨A, n, c, rfl, l, hf, hn, hr, hc⟩ := hv
  have HR := Lib.hid (hr.below (below_new w (.cells #[.slice A n c] 26)))
  rw [← hf.get i]
  clear hr hf
  by_cases h : i < n
  · obtain ⟨g, o, rfl, hl0⟩ := HR.out.cell i (by simp; omega)
    rw [List.getElem_map] at hl0
    have hlx : l.getD i 0 = l[i] := by simp [List.getD, show i < l.length by omega]
    rw [hlx]
    clear hlx
    generalize l[i] = y at *
    have t1 : decide (i < n) = true := by simp; omega
    have t1' : decide ((i : Int) < n) = true := by simp; omega
    have q : (i : Int) < n := by omega
    go_enter Tryd.func48, Tryd.ntmps48
    go_wp2_with fail
    go_ret
    exact ⟨rfl, by go_grown⟩
  · have hlx : l.getD i 0 = 0 := by simp [List.getD, show l.length ≤ i by omega]
    rw [hlx]
    have t1 : decide (i < n) = false := by simp; omega
    have t1' : decide ((i : Int) < n) = false := by simp; omega
    go_enter Tryd.func48, Tryd.ntmps48
    go_wp2_with fail
    go_ret
    exact ⟨rfl, by go_grown⟩

/-- A number's bit at a place. -/
def bitV (x : Nat) (k : Int) : Bool := decide (0 ≤ k ∧ x / 2 ^ k.toNat % 2 = 1)
theorem bit_word (x q : Nat) : x / W64 ^ (q / 64) % W64 / 2 ^ (q % 64) % 2 = x / 2 ^ q % 2 := by
  have h1 : W64 ^ (q / 64) = 2 ^ (64 * (q / 64)) := by rw [W64_pow, Nat.pow_mul]
  have h2 : ∀ y, y % W64 / 2 ^ (q % 64) % 2 = y / 2 ^ (q % 64) % 2 := fun y => by
    have h3 := Nat.mod_lt q (show 0 < 64 by omega)
    have h4 : W64 = 2 ^ (q % 64) * (2 * 2 ^ (63 - q % 64)) := by
      rw [← Nat.pow_succ', ← Nat.pow_add, W64_pow]; congr 1; omega
    rw [h4, Nat.mod_mul_right_div_self, Nat.mod_mul_right_mod]
  rw [h2, h1, Nat.div_div_eq_div_mul, ← Nat.pow_add, Nat.div_add_mod]

set_option maxRecDepth 100000 in
theorem bit_nat (v : Value) (x : Nat) (k : Int) (w : World) (hv : NatW w v x) (hk : (Lit.int .i64 k).wf = true) :
    Calls Tryd.prog 40 #[v, .int .i64 k] w fun e w' => e = .returned (.bool (bitV x k)) ∧ Below w.heap.size w w' := by
  have HV := Lib.hid hv
  obtain ⟨A, n, c, rfl, _⟩ := hv
  have hlo : -9223372036854775808 ≤ k ∧ k ≤ 9223372036854775807 := by have h := hk; simp [Lit.wf] at h; exact h
  clear hk
  by_cases h0 : 0 ≤ k
  · obtain ⟨q, rfl⟩ : ∃ q : Nat, k = q := ⟨k.toNat, by omega⟩
    have hw := (fun W hb => word_big _ x (q / 64) W (HV.out.below (w' := W) hb) (by omega))
    have e64 : ((q / 64 : Nat) : Int) = (q : Int) / 64 := by omega
    obtain ⟨r, hr⟩ : ∃ r, r = q % 64 := ⟨_, rfl⟩
    have e65 : ((q : Int) % 64) = (r : Int) := by omega
    have hr64 : r < 64 := by omega
    simp only [e64] at hw
    have HW := Lib.hid hw
    clear e64 hw
    have e1 := bit_word x q
    have hX : x / W64 ^ (q / 64) % W64 < W64 := Nat.mod_lt _ (by unfold W64; omega)
    have e2 : bitV x q = decide (x / W64 ^ (q / 64) % W64 / 2 ^ (q % 64) % 2 = 1) := by
      unfold bitV; rw [e1]; simp
    rw [e2]
    clear e1 e2
    rw [← hr]
    clear hr
    generalize x / W64 ^ (q / 64) % W64 = X at *
    have hs := shr_w X r
    have hZ : X / 2 ^ r < W64 := Nat.lt_of_le_of_lt (Nat.div_le_self _ _) hX
    generalize X / 2 ^ r = Z at *
    have hand : bits .and .u64 (Z : Int) 1 = ((Z % 2 : Nat) : Int) := by
      have h := bits_and_u64_nat Z 1 hZ (by omega)
      rw [Nat.and_one_is_mod] at h
      exact h
    have hb2 : Z % 2 = 0 ∨ Z % 2 = 1 := by omega
    clear hX hZ
    generalize Z % 2 = b at *
    have hbb : ((b : Int) == 1) = decide (b = 1) := by rcases hb2 with rfl | rfl <;> rfl
    have HBB := Lib.hid hb2
    clear hb2
    generalize decide (b = 1) = res at *
    have t0 : decide ((0 : Int) ≤ q) = true := by simp
    go_enter Tryd.func40, Tryd.ntmps40
    go_wp2_with fail
    refine (HW.out _ (by go_grown)).mono ?_
    rintro e w1 ⟨rfl, hb1⟩
    have HB1 := Lib.hid (keepb (below_new w (.cells #[.slice A n c] 26)) hb1)
    clear hb1
    go_wp2_with fail
    go_ret
    exact ⟨rfl, HB1.out⟩
  · have e2 : bitV x k = false := by unfold bitV; simp [h0]
    rw [e2]
    have t0 : decide ((0 : Int) ≤ k) = false := by simpa using h0
    clear h0 e2
    go_enter Tryd.func40, Tryd.ntmps40
    go_wp2_with fail
    go_ret
    exact ⟨rfl, by go_grown⟩

/-- What Word answers. -/
def wordV (x : Nat) : Value := if x < W64 then .tuple #[wv x, .bool true] else .tuple #[wv 0, .bool false]
set_option maxRecDepth 100000 in
theorem nword_nat (v : Value) (x : Nat) (w : World) (hv : NatW w v x) (hx : blen x ≤ 1000000) :
    Calls Tryd.prog 42 #[v] w fun e w' => e = .returned (wordV x) ∧ Below w.heap.size w w' := by
  have HV := Lib.hid hv
  obtain ⟨A, n, c, rfl, hl⟩ := hv
  have hnn := natl_len hl
  have hn1 : n ≤ 20000 := by omega
  have hx1 : n ≤ 1 → x < W64 := fun h => by
    obtain ⟨l, h1, rfl, _⟩ := hl
    exact Nat.lt_of_lt_of_le h1.lt (by have := Nat.pow_le_pow_right (show 0 < W64 by unfold W64; omega) h; rwa [Nat.pow_one] at this)
  have hx2 : 1 < n → W64 ≤ x := fun h => by
    obtain ⟨l, h1, rfl, _⟩ := hl
    have h2 := h1.ge (l.length - 1) (by omega)
    exact Nat.le_trans (by have := Nat.pow_le_pow_right (show 0 < W64 by unfold W64; omega) (show 1 ≤ l.length - 1 by omega); rwa [Nat.pow_one] at this) h2
  clear hl hnn hx
  by_cases h : 1 < n
  · have e : wordV x = .tuple #[wv 0, .bool false] := by unfold wordV; rw [if_neg (by have := hx2 h; omega)]
    rw [e]
    have t1 : decide ((1 : Int) < n) = true := by simp; omega
    have t1' : decide (1 < n) = true := by simp; omega
    clear hx1 hx2 e h
    go_enter Tryd.func42, Tryd.ntmps42
    go_wp2_with fail
    exact bodyPost_ret (v := .tuple #[wv 0, .bool false]) (by simp [results, Tryd.results42, go_sem]) rfl ⟨rfl, by go_grown⟩
  · have hxl := hx1 (by omega)
    have e : wordV x = .tuple #[wv x, .bool true] := by unfold wordV; rw [if_pos hxl]
    rw [e]
    have HW := Lib.hid (fun W hb => word_nat _ x 0 W (HV.out.below (w' := W) hb) (by omega))
    have e0 : x / W64 ^ 0 % W64 = x := by rw [Nat.pow_zero, Nat.div_one, Nat.mod_eq_of_lt hxl]
    rw [e0] at HW
    have t1 : decide ((1 : Int) < n) = false := by simp; omega
    have t1' : decide (1 < n) = false := by simp; omega
    clear hx1 hx2 e h hxl e0
    go_enter Tryd.func42, Tryd.ntmps42
    go_wp2_with fail
    refine (HW.out _ (by go_grown)).mono ?_
    rintro e w1 ⟨rfl, hb1⟩
    have HB1 := Lib.hid (keepb (below_new w (.cells #[.slice A n c] 26)) hb1)
    clear hb1
    go_wp2_with fail
    exact bodyPost_ret (v := .tuple #[wv x, .bool true]) (by simp [results, Tryd.results42, go_sem]) rfl ⟨rfl, HB1.out⟩
end Go.Proofs.YtgihkmofpncobaaDoor

namespace Go.Proofs.YtgihkmofpncobaaDoor
open Go.RowKit
set_option linter.unusedSimpArgs false
set_option linter.unusedVariables false

theorem twice_step {x k lo hi i more : Nat} {acc l : List Nat} (h1 : x * 2 = lo + W64 * hi) (hl : acc.length = i) (hi' : i < l.length) (hx : l.getD i 0 = x)
    (h : fval W64 acc + W64 ^ i * k = 2 * fval W64 (l.take i) + more) : fval W64 (acc ++ [lo + k]) + W64 ^ (i + 1) * hi = 2 * fval W64 (l.take (i + 1)) + more := by
  have ht : l.take (i + 1) = l.take i ++ [x] := by
    rw [List.take_succ_eq_append_getElem hi']
    congr 2
    rw [← hx]; simp [List.getD, hi']
  rw [ht, fval_snoc, fval_snoc, hl, List.length_take, Nat.min_eq_left (by omega), Nat.pow_succ]
  have e1 : W64 ^ i * (x * 2) = W64 ^ i * lo + W64 ^ i * W64 * hi := by rw [h1, Nat.mul_add, Nat.mul_assoc]
  have e2 : W64 ^ i * (x * 2) = 2 * (W64 ^ i * x) := by rw [← Nat.mul_assoc, Nat.mul_comm _ 2]
  rw [Nat.mul_add, Nat.mul_add]
  omega
/-- A number in a row of its own. -/
def NatVG (x : Nat) (w : World) (e : Ending) (w' : World) : Prop := ∃ A n c, e = .returned (.agg #[.slice A n c]) ∧ NatL w' A n c x ∧ Fresh w.heap.size A ∧ Below w.heap.size w w'
def oneIf (b : Bool) : Nat := if b then 1 else 0

set_option maxRecDepth 100000 in
set_option maxHeartbeats 2000000 in
theorem twice_nat (v : Value) (x : Nat) (more : Bool) (w : World) (hv : NatW w v x) (hx : blen x ≤ 1000000) :
    Calls Tryd.prog 58 #[v, .bool more] w (NatVG (2 * x + oneIf more) w) := by
  obtain ⟨A, n, c, rfl, hl⟩ := hv
  have hn0 := natl_len hl
  have hn : n ≤ 20000 := by omega
  obtain ⟨l, hf, hln, hr, hc⟩ := hl
  have HR := Lib.hid hr
  have HF := Lib.hid hf
  have HLN := Lib.hid hln
  have hmk := fun W => run_mk ei_u64 .i64 .i64 0 (n + 1) (by omega) (by omega) (by omega) W
  have e2 : ((n + 1 : Nat) : Int) = (n : Int) + 1 := by omega
  have e0 : ((0 : Nat) : Int) = 0 := rfl
  rw [e2, e0] at hmk
  have hli : (n : Int) ≤ 20000 := by omega
  have hm1 : oneIf more ≤ 1 := by unfold oneIf; split <;> omega
  have HM1 := Lib.hid hm1
  have hmv : more = false ∧ oneIf more = 0 ∨ more = true ∧ oneIf more = 1 := by cases more <;> simp [oneIf]
  generalize oneIf more = mo at *
  clear hr hf e2 e0 hx hn0 hln hm1
  go_enter Tryd.func58, Tryd.ntmps58
  go_upto_region 3 with fail
  obtain ⟨W0, hW0⟩ : ∃ W0, W0 = (w.alloc (.cells #[.slice A n c] 26)).alloc (.cells #[.slice none 0 0] 26) := ⟨_, rfl⟩
  have hb0 : Below w.heap.size w W0 := by rw [hW0]; go_grown
  have hsz : W0.heap.size = w.heap.size + 1 + 1 := by rw [hW0]; simp
  have ca : W0.cell? ⟨w.heap.size, 0, none⟩ = some (.slice A n c) := by rw [hW0]; exact keepc (below_new _ _) (by simp) (by simp)
  have hbk : Blk W0 (w.heap.size + 1) 26 #[.slice none 0 0] := by
    have := Blk.new (w.alloc (.cells #[.slice A n c] 26)) 26 #[.slice none 0 0]
    simp only [World.size_alloc] at this
    rw [hW0]; exact this
  rw [← hW0]
  have HB0 := Lib.hid hb0
  have HSZ := Lib.hid hsz
  have HBK := Lib.hid hbk
  have HA := Lib.hid ca
  have ca1 : (W0.alloc (.cells (zs (.int .u64 0) (n + 1)).toArray 35)).cell? ⟨w.heap.size, 0, none⟩ = some (.slice A n c) := keepc (below_new _ _) (by omega) ca
  clear hW0 hb0 hbk ca
  have HO := Lib.hid (made_own (e := 35) (z := .int .u64 0) (ok := okW) W0 W0.heap.size (Nat.le_refl _) 0 (n + 1) (by omega) (by omega) okW0)
  rw [hsz] at HO
  rcases hmv with ⟨rfl, hmo⟩ | ⟨rfl, hmo⟩
  all_goals
    go_wp2_with fail
    go_loopw [5, 6, 18] (fun s5 s6 s18 wr => ∃ (k j : Nat) (acc : List Nat), j ≤ n ∧ s18 = .int .i64 j ∧ s6 = wv k ∧ k ≤ 1 ∧ acc.length = j ∧ Figs W64 acc ∧ fval W64 acc + W64 ^ j * k = 2 * fval W64 (l.take j) + mo ∧
        OwnR wr (w.heap.size + 1 + 1) 35 okW s5 j (acc.map wv) ∧ Below W0.heap.size W0 wr) (fun _ _ i _ => n - (intOf i).toNat)
    case atStart => exact ⟨mo, 0, [], by omega, rfl, by rw [hmo]; rfl, HM1.out, rfl, Figs.nil _, by simp [fval], HO.out, below_new _ _⟩
    case round =>
      obtain ⟨k, j, acc, hj, rfl, rfl, hk, ha, hfa, hv, hu, hbel⟩ := hrel
      have HA' := Lib.hid ha
      have HFA := Lib.hid hfa
      have HV := Lib.hid hv
      have HU := Lib.hid hu
      have HBE := Lib.hid hbel
      have hszr := hbel.size
      rw [HSZ.out] at hszr
      have HBW := Lib.hid (keepb HB0.out hbel)
      obtain ⟨A1, c1, hu', hc1⟩ := hu.shape
      subst hu'
      clear ha hfa hv hu hbel
      by_cases hlt : j < n
      · obtain ⟨g, o, rfl, hl0⟩ := (HR.out.below HBW.out).cell j (by simp; rw [HLN.out]; exact hlt)
        rw [List.getElem_map] at hl0
        have hjl : j < l.length := by rw [HLN.out]; exact hlt
        have hlx : l.getD j 0 = l[j] := by simp [List.getD, hjl]
        have hxw : l[j] < W64 := HF.out.figs _ (List.getElem_mem _)
        have HLX := Lib.hid hlx
        clear hlx
        generalize l[j] = X at *
        have hs1 : IntKind.u64.wrap ((X : Int) * 2) = ((X * 2 % W64 : Nat) : Int) := by have := mul_w X 2; exact this
        have hs2 : (X : Int) / 9223372036854775808 = ((X / 9223372036854775808 : Nat) : Int) := by omega
        have HX2 := Lib.hid (show X * 2 = X * 2 % W64 + W64 * (X / 9223372036854775808) by unfold W64 at *; omega)
        have hlo : ∃ m, X * 2 % W64 = m * 2 ^ 1 := ⟨X * 2 % W64 / 2, by unfold W64; omega⟩
        have hsum : X * 2 % W64 + k < W64 := by unfold W64; omega
        have ho := orN hlo (show k < 2 ^ 1 by omega) hsum
        have HSUM := Lib.hid hsum
        have hhi : X / 9223372036854775808 ≤ 1 := by unfold W64 at hxw; omega
        clear hlo hsum hxw
        generalize X * 2 % W64 = lo at *
        generalize X / 9223372036854775808 = hi at *
        have HST := Lib.hid (twice_step HX2.out HA'.out hjl HLX.out HV.out)
        have q : (j : Int) < n := by omega
        clear hjl
        generalize lo + k = z at *
        go_wp2_with (at_builtin; refine wpList_app ei_u64 okW0 rfl (.tmp 22) (.tmp 27) rfl (w.heap.size + 1 + 1) _ _ _ rfl (HU.out.below (below_new _ _)) _ _ _ _ _ rfl (RV.fresh wr 35 [wv z]) (fun u hu => by simp at hu; subst hu; rfl) (show j + 1 ≤ _ by omega) (show (j + 1) * 8 ≤ _ by omega) (Nat.le_trans hszr (below_new _ _).size) ?_; intro A3 c3 w3 hu3 hg3 ha3)
        go_roundw
        case rel => exact ⟨hi, j + 1, acc ++ [z], by omega, by go_num, rfl, hhi, by simp [HA'.out], HFA.out.snoc HSUM.out, HST.out, by rw [List.map_append]; exact hu3, (HBE.out.alloc (by rw [HSZ.out]; omega) _).grown hg3 (by simp; rw [HSZ.out]; omega) (fun t ht => by rw [HSZ.out]; exact (HU.out.lt t ht).1)⟩
        case measure => simp [intOf]; omega
      · obtain rfl : j = n := by omega
        have hszw := HBE.out.size
        have HVV := Lib.hid (show fval W64 (acc ++ [k]) = 2 * x + mo by rw [fval_snoc, HA'.out, HV.out, ← HLN.out, List.take_length, HF.out.val])
        have t1 : decide ((j : Int) < j) = false := by simp
        have HK : Hid (k < W64) := Lib.hid (by unfold W64; omega)
        clear hlt
        go_wp2_with (at_builtin; refine wpList_app ei_u64 okW0 rfl (.tmp 32) (.tmp 34) rfl (w.heap.size + 1 + 1) _ _ _ rfl (HU.out.below (below_new _ _)) _ _ _ _ _ rfl (RV.fresh wr 35 [wv k]) (fun u hu => by simp at hu; subst hu; rfl) (show j + 1 ≤ _ by omega) (show (j + 1) * 8 ≤ _ by omega) (Nat.le_trans hszr (below_new _ _).size) ?_; intro A3 c3 w3 hu3 hg3 ha3)
        have hc3 : j + 1 ≤ c3 := by
          obtain ⟨_, _, he3, hc3⟩ := hu3.shape
          have := (Value.slice.inj he3).2.2; omega
        have HB3 := Lib.hid (show Below W0.heap.size W0 w3 from (HBE.out.alloc hszw _).grown hg3 (by simp; omega) (fun t ht => by rw [HSZ.out]; exact (HU.out.lt t ht).1))
        have HMD := Lib.hid (made_nat2 A3 (j + 1) c3 (2 * x + mo) (acc ++ [k]) w3 (by simp [HA'.out]) (HFA.out.snoc HK.out) HVV.out (by rw [List.map_append]; exact RT.of_own hu3) hc3 (by omega))
        have HBK3 : Hid (Blk w3 (w.heap.size + 1) 26 #[.slice none 0 0]) := HBK.out.below HB3.out (by rw [HSZ.out]; omega)
        have HFR : Hid (Fresh w.heap.size A3) := Lib.hid (fun g o h => Nat.le_trans (by omega) (hu3.fresh g o h))
        clear hu3 hg3 ha3 hc3
        refine HMD.out.mono ?_
        rintro e w4 ⟨n4, rfl, hl4, hb4⟩
        have HB4 := Lib.hid (keepb (keepb HB0.out HB3.out) hb4)
        have HBK4 : Hid (Blk w4 (w.heap.size + 1) 26 #[.slice none 0 0]) := HBK3.out.below hb4 HBK3.out.lt
        have HV4 := Lib.hid hl4
        have hc5 := HBK4.out.cell 0
        have hf5 := HBK4.out.frozen 0
        simp at hc5
        have hp := HBK4.out.put (i := 0) (by simp)
        clear hb4 hl4
        go_wp2_with fail
        exact bodyPost_ret (v := .agg #[.slice A3 n4 c3]) (by simp [results, Tryd.results58, go_sem, hp]) rfl ⟨_, _, _, rfl, HV4.out.set HBK4.out (by decide) _, HFR.out, HB4.out.setCell (show w.heap.size ≤ w.heap.size + 1 by omega) _⟩
end Go.Proofs.YtgihkmofpncobaaDoor

namespace Go.Proofs.YtgihkmofpncobaaDoor
open Go.RowKit
attribute [local go_sem ↓] Go.wp_at_zero Go.wp_at_succ
set_option linter.unusedSimpArgs false
set_option linter.unusedVariables false

theorem natl_zero {w : World} {A : Option Addr} {n c x : Nat} (h : NatL w A n c x) : 0 < n ↔ 0 < x := by
  obtain ⟨l, h1, rfl, _⟩ := h
  exact h1.pos (by unfold W64; omega)
theorem div_step {x y i Q L b : Nat} (h : x / 2 ^ (i + 1) = y * Q + L) (hb : x / 2 ^ i % 2 = b) : x / 2 ^ i = y * (2 * Q) + (2 * L + b) ∧ x / 2 ^ i + y = y * (2 * Q + 1) + (2 * L + b) := by
  have h1 : x / 2 ^ (i + 1) = x / 2 ^ i / 2 := by rw [Nat.div_div_eq_div_mul, Nat.pow_succ]
  have h2 : y * (2 * Q) = 2 * (y * Q) := by rw [Nat.mul_left_comm]
  rw [Nat.mul_add, h2]
  omega
theorem word_mult {M : List Nat} {Q a r : Nat} (hf : Figs W64 M) (h : fval W64 M = Q * 2 ^ (64 * a + r + 1)) (hr : r < 64) : (∃ k, M.getD a 0 = k * 2 ^ (r + 1)) ∧ M.getD a 0 + 2 ^ r < W64 := by
  have hp : 0 < 2 ^ (r + 1) := Nat.pow_pos (by omega)
  have hW : W64 = 2 ^ (63 - r) * 2 ^ (r + 1) := by rw [← Nat.pow_add, show 63 - r + (r + 1) = 64 by omega]; rfl
  have h1 : M.getD a 0 = Q % 2 ^ (63 - r) * 2 ^ (r + 1) := by
    rw [← fval_get hf a, h, Nat.add_assoc, Nat.pow_add, show W64 ^ a = 2 ^ (64 * a) by rw [W64_pow, Nat.pow_mul], Nat.mul_left_comm, Nat.mul_div_cancel_left _ (Nat.pow_pos (by omega))]
    rw (config := { occs := .pos [1] }) [hW]
    rw [Nat.mul_mod_mul_right]
  refine ⟨⟨_, h1⟩, ?_⟩
  have h2 : Q % 2 ^ (63 - r) + 1 ≤ 2 ^ (63 - r) := Nat.mod_lt _ (Nat.pow_pos (by omega))
  have h3 := Nat.mul_le_mul_right (2 ^ (r + 1)) h2
  rw [← hW, Nat.add_mul, Nat.one_mul, ← h1] at h3
  have h4 : 2 ^ (r + 1) = 2 ^ r + 2 ^ r := by rw [Nat.pow_succ]; omega
  have h5 : 0 < 2 ^ r := Nat.pow_pos (by omega)
  omega

theorem wf_nat (i : Nat) (h : i ≤ 1000000) : (Lit.int .i64 (i : Int)).wf = true := by
  have h1 : IntKind.i64.min = -9223372036854775808 := by decide
  simp [Lit.wf, h1]
  omega
theorem blen_twice {L b k : Nat} (h : blen L ≤ k) (hb : b ≤ 1) : blen (2 * L + b) ≤ k + 1 := blen_le.2 (by
  have := blen_le.1 h
  rw [Nat.pow_succ]; omega)
theorem put2 {W : World} {b b' : Nat} {t : TypeId} {x y : Value} (h2 : Blk W b t #[x]) (h3 : Blk W b' t #[y]) (hne : b' ≠ b) (v u : Value) :
    ((W.setCell ⟨b, 0, none⟩ v).setCell ⟨b', 0, none⟩ u).cell? ⟨b, 0, none⟩ = some v ∧ ((W.setCell ⟨b, 0, none⟩ v).setCell ⟨b', 0, none⟩ u).cell? ⟨b', 0, none⟩ = some u := by
  refine ⟨?_, (h3.far (p := ⟨b, 0, none⟩) hne v).put (by simp) u⟩
  have := ((h2.set1 0 v).far (p := ⟨b', 0, none⟩) (fun h => hne h.symm) u).cell 0
  exact this.trans rfl
/-- A store into a row that lies ahead. -/
theorem NatL.far {w : World} {A : Option Addr} {n c x B i : Nat} (h : NatL w A n c x) (hf : Fresh (B + 1) A) (u : Value) : NatL (w.setCell ⟨B, i, none⟩ u) A n c x := by
  obtain ⟨l, h1, h2, h3, h4⟩ := h
  refine ⟨l, h1, h2, ?_, h4⟩
  rcases h3 with h3 | ⟨g, o, cs, hA, hB, hc⟩
  · exact .inl h3
  · exact .inr ⟨g, o, cs, hA, hB.far (p := ⟨B, i, none⟩) (by have := hf g o hA; show g ≠ B; omega) u, hc⟩
theorem Fresh.none (B : Nat) : Fresh B none := fun _ _ h => by cases h
theorem Fresh.mono {B C : Nat} {A : Option Addr} (h : Fresh C A) (hb : B ≤ C) : Fresh B A := fun g o hA => Nat.le_trans hb (h g o hA)

/-- Divide's answer at a number that is not 0. -/
def DivP (x y : Nat) (w : World) (e : Ending) (w' : World) : Prop :=
  ∃ A n c B m d, e = .returned (.tuple #[.agg #[.slice A n c], .agg #[.slice B m d], .nilIface]) ∧ NatL w' A n c (x / y) ∧ NatL w' B m d (x % y) ∧ Below w.heap.size w w'

set_option maxRecDepth 100000 in
set_option maxHeartbeats 4000000 in
theorem div_zero (v u : Value) (x : Nat) (w : World) (hv : NatW w v x) (hu : NatW w u 0) :
    Calls Tryd.prog 31 #[v, u] w fun e w' => e = .returned (.tuple #[nilN, nilN, enoV 13]) ∧ Below w.heap.size w w' := by
  obtain ⟨A, n, c, rfl, _⟩ := hv
  obtain ⟨B, m, d, rfl, hk⟩ := hu
  have hm0 := natl_zero hk
  obtain rfl : m = 0 := by omega
  clear hk hm0
  go_enter Tryd.func31, Tryd.ntmps31
  go_wp2_with fail
  go_step3
  obtain ⟨W4, hW4⟩ : ∃ W4, W4 = (((w.alloc (.cells #[.slice A n c] 26)).alloc (.cells #[.slice B 0 d] 26)).alloc (.cells #[.slice none 0 0] 26)).alloc (.cells #[.slice none 0 0] 26) := ⟨_, rfl⟩
  have hb0 : Below w.heap.size w W4 := by rw [hW4]; go_grown
  have hsz : W4.heap.size = w.heap.size + 1 + 1 + 1 + 1 := by rw [hW4]; simp
  have ca : W4.cell? ⟨w.heap.size, 0, none⟩ = some (.slice A n c) := by rw [hW4]; exact keepc (below_new _ _) (by simp; omega) (boxes3 w _ _ _ _).1
  have cb : W4.cell? ⟨w.heap.size + 1, 0, none⟩ = some (.slice B 0 d) := by rw [hW4]; exact keepc (below_new _ _) (by simp) (boxes3 w _ _ _ _).2
  have hk2 : Blk W4 (w.heap.size + 2) 26 #[.slice none 0 0] := by
    have := (Blk.new ((w.alloc (.cells #[.slice A n c] 26)).alloc (.cells #[.slice B 0 d] 26)) 26 #[.slice none 0 0]).alloc (.cells #[.slice none 0 0] 26)
    simp only [World.size_alloc] at this
    rw [hW4]; exact this
  have hk3 : Blk W4 (w.heap.size + 3) 26 #[.slice none 0 0] := by
    have := Blk.new (((w.alloc (.cells #[.slice A n c] 26)).alloc (.cells #[.slice B 0 d] 26)).alloc (.cells #[.slice none 0 0] 26)) 26 #[.slice none 0 0]
    simp only [World.size_alloc] at this
    rw [hW4]; exact this
  rw [← hW4]
  have HB0 := Lib.hid hb0
  have HSZ := Lib.hid hsz
  have HA := Lib.hid ca
  have HB := Lib.hid cb
  have HK2 := Lib.hid hk2
  have HK3 := Lib.hid hk3
  clear hW4 hb0 ca cb hk2 hk3
  have cb := HB.out
  have c2 := HK2.out.cell 0
  have f2 := HK2.out.frozen 0
  have c3 := HK3.out.cell 0
  have f3 := HK3.out.frozen 0
  simp at c2 c3
  have c3' : ∀ v, (W4.setCell ⟨w.heap.size + 2, 0, none⟩ v).cell? ⟨w.heap.size + 3, 0, none⟩ = some (.slice none 0 0) := fun v => by rw [(HK3.out.far (p := ⟨w.heap.size + 2, 0, none⟩) (by simp) v).cell]; rfl
  have f3' : ∀ v, (W4.setCell ⟨w.heap.size + 2, 0, none⟩ v).frozen? ⟨w.heap.size + 3, 0, none⟩ = false := fun v => (HK3.out.far (p := ⟨w.heap.size + 2, 0, none⟩) (by simp) v).frozen 0
  have hp := put2 HK2.out HK3.out (by simp)
  have hp2 := fun v u => (hp v u).1
  have hp3 := fun v u => (hp v u).2
  clear hp
  go_wp2_with fail
  refine (?_ : bodyPost Tryd.prog Tryd.f31 (fun e w' => e = .returned (.tuple #[nilN, nilN, enoV 13]) ∧ Below w.heap.size w w') .ret _ _)
  exact bodyPost_ret (v := .tuple #[nilN, nilN, enoV 13]) (by simp [results, Tryd.results31, go_sem, hp2, hp3]) rfl ⟨rfl, (HB0.out.setCell (p := ⟨w.heap.size + 2, 0, Option.none⟩) (show w.heap.size ≤ w.heap.size + 2 by omega) _).setCell (p := ⟨w.heap.size + 3, 0, Option.none⟩) (show w.heap.size ≤ w.heap.size + 3 by omega) _⟩
set_option maxRecDepth 100000 in
set_option maxHeartbeats 8000000 in
theorem div_nat (v u : Value) (x y : Nat) (w : World) (hv : NatW w v x) (hu : NatW w u y) (hx : blen x ≤ 100000) (hy : blen y ≤ 100000) (hy0 : 0 < y) :
    Calls Tryd.prog 31 #[v, u] w (DivP x y w) := by
  have HV := Lib.hid hv
  have HU := Lib.hid hu
  obtain ⟨A, n, c, rfl, hl⟩ := hv
  obtain ⟨B, m, d, rfl, hk⟩ := hu
  have hn := natl_len hl
  have hm0 := (natl_zero hk).2 hy0
  have hbn : blen x ≤ 64 * n := by obtain ⟨l, h1, rfl, _⟩ := hl; exact blen_words h1.lt
  have hn1 : n ≤ 2000 := by omega
  have HX := Lib.hid hx
  have HY := Lib.hid hy
  have HBN := Lib.hid hbn
  have HY0 := Lib.hid hy0
  have t0 : ((m : Int) == 0) = false := by rw [beq_eq_false_iff_ne]; omega
  have t0' : (m == 0) = false := by rw [beq_eq_false_iff_ne]; omega
  have hmk := fun W => run_mk ei_u64 .i64 .i64 n n (Nat.le_refl _) (by omega) (by omega) W
  have HLEN := Lib.hid (fun W hb => len_nat _ x W (HV.out.below (w' := W) hb) (Nat.le_trans HX.out (by decide)))
  clear hl hk hn hm0 hbn hx hy hy0
  go_enter Tryd.func31, Tryd.ntmps31
  go_wp2_with fail
  go_step3
  go_upto_region 4 with fail
  obtain ⟨W4, hW4⟩ : ∃ W4, W4 = (((w.alloc (.cells #[.slice A n c] 26)).alloc (.cells #[.slice B m d] 26)).alloc (.cells #[.slice none 0 0] 26)).alloc (.cells #[.slice none 0 0] 26) := ⟨_, rfl⟩
  have hb0 : Below w.heap.size w W4 := by rw [hW4]; go_grown
  have hsz : W4.heap.size = w.heap.size + 1 + 1 + 1 + 1 := by rw [hW4]; simp
  have ca : W4.cell? ⟨w.heap.size, 0, none⟩ = some (.slice A n c) := by rw [hW4]; exact keepc (below_new _ _) (by simp; omega) (boxes3 w _ _ _ _).1
  have cb : W4.cell? ⟨w.heap.size + 1, 0, none⟩ = some (.slice B m d) := by rw [hW4]; exact keepc (below_new _ _) (by simp) (boxes3 w _ _ _ _).2
  have hk2 : Blk W4 (w.heap.size + 2) 26 #[.slice none 0 0] := by
    have := (Blk.new ((w.alloc (.cells #[.slice A n c] 26)).alloc (.cells #[.slice B m d] 26)) 26 #[.slice none 0 0]).alloc (.cells #[.slice none 0 0] 26)
    simp only [World.size_alloc] at this
    rw [hW4]; exact this
  have hk3 : Blk W4 (w.heap.size + 3) 26 #[.slice none 0 0] := by
    have := Blk.new (((w.alloc (.cells #[.slice A n c] 26)).alloc (.cells #[.slice B m d] 26)).alloc (.cells #[.slice none 0 0] 26)) 26 #[.slice none 0 0]
    simp only [World.size_alloc] at this
    rw [hW4]; exact this
  rw [← hW4]
  have HB0 := Lib.hid hb0
  have HSZ := Lib.hid hsz
  have HA := Lib.hid ca
  have HB := Lib.hid cb
  have HK2 := Lib.hid hk2
  have HK3 := Lib.hid hk3
  clear hW4 hb0 ca cb hk2 hk3
  obtain ⟨W6, hW6⟩ : ∃ W6, W6 = (W4.alloc (.cells (zs (.int .u64 0) n).toArray 35)).alloc (.cells #[.slice none 0 0] 26) := ⟨_, rfl⟩
  have hb6 : Below W4.heap.size W4 W6 := by rw [hW6]; go_grown
  have hq6 : Blk W6 (w.heap.size + 4) 35 ((List.replicate n 0).map wv).toArray := by
    have := (Blk.new W4 35 (zs (.int .u64 0) n).toArray).alloc (.cells #[.slice none 0 0] 26)
    rw [zs_fig, hsz, ← zs_fig, ← hW6, zs_fig] at this; exact this
  have hl6 : Blk W6 (w.heap.size + 5) 26 #[.slice none 0 0] := by
    have := Blk.new (W4.alloc (.cells (zs (.int .u64 0) n).toArray 35)) 26 #[.slice none 0 0]
    rw [World.size_alloc, hsz, ← hW6] at this; exact this
  have hs6 : w.heap.size + 6 = W6.heap.size := by rw [hW6]; simp; omega
  have HB6 := Lib.hid hb6
  have HQ6 := Lib.hid hq6
  have HL6 := Lib.hid hl6
  have HS6 := Lib.hid hs6
  have c6 : W6.cell? ⟨w.heap.size, 0, none⟩ = some (.slice A n c) := keepc hb6 (by omega) HA.out
  clear hb6 hq6 hl6 hs6 hsz
  go_wp2_with fail
  rw [← hW6]
  clear hW6
  go_step3
  go_wp2_with fail
  refine (HLEN.out _ (keepb HB0.out HB6.out)).mono ?_
  rintro e w1 ⟨rfl, hb1⟩
  have HB1 := Lib.hid (keepb HB6.out hb1)
  have HQ1 := Lib.hid (HQ6.out.below hb1 (by rw [← HS6.out]; omega))
  have HL1 := Lib.hid (HL6.out.below hb1 (by rw [← HS6.out]; omega))
  have hs1 : w.heap.size + 6 ≤ w1.heap.size := by rw [HS6.out]; exact hb1.size
  have HS1 := Lib.hid hs1
  rw [show W4.heap.size + 1 = w.heap.size + 5 by rw [HSZ.out]]
  have hbx : blen x ≤ 100000 := HX.out
  have HBD := Lib.hid (blen_lt x)
  generalize hbl : blen x = bl at *
  clear hbl hb1 c6 hs1
  go_wp2_with fail
  go_loopw [9] (fun s9 wr => ∃ (j Q L : Nat) (M : List Nat) (A' : Option Addr) (n' c' : Nat), s9 = .int .i64 ((j : Int) - 1) ∧ j ≤ bl ∧ x / 2 ^ j = y * Q + L ∧ L < y ∧ M.length = n ∧ Figs W64 M ∧ fval W64 M = Q * 2 ^ j ∧
      Blk wr (w.heap.size + 4) 35 (M.map wv).toArray ∧ Blk wr (w.heap.size + 5) 26 #[.slice A' n' c'] ∧ NatL wr A' n' c' L ∧ Fresh (w.heap.size + 4 + 1) A' ∧ Below W4.heap.size W4 wr) (fun s _ => (intOf s + 1).toNat)
  case atStart => exact ⟨bl, 0, 0, List.replicate n 0, none, 0, 0, rfl, by omega, by rw [Nat.div_eq_of_lt HBD.out]; simp, HY0.out, by simp, fun d hd => by rw [(List.mem_replicate.1 hd).2]; unfold W64; omega, by rw [fval_zero (fun d hd => (List.mem_replicate.1 hd).2)]; simp, HQ1.out, HL1.out, ⟨[], IsF.nil _, rfl, RT.nil _ _, Nat.le_refl _⟩, Fresh.none _, HB1.out⟩
  case round =>
    obtain ⟨j, Q, L, M, A', n', c', rfl, hj, hxq, hLy, hml, hmf, hmv, hbq, hbl, hnl, hfr, hbel⟩ := hrel
    have HXQ := Lib.hid hxq
    have HLY := Lib.hid hLy
    have HML := Lib.hid hml
    have HMF := Lib.hid hmf
    have HMV := Lib.hid hmv
    have HBQ := Lib.hid hbq
    have HBL := Lib.hid hbl
    have HNL := Lib.hid hnl
    have HFR := Lib.hid hfr
    have HBE := Lib.hid hbel
    have hzr := hbl.lt
    have ca := keepc hbel (by rw [HSZ.out]; omega) HA.out
    have cb := keepc hbel (by rw [HSZ.out]; omega) HB.out
    have HBW := Lib.hid (keepb HB0.out hbel)
    clear hxq hLy hml hmf hmv hbq hbl hnl hfr hbel
    cases j with
    | zero =>
      have e9 : (((0 : Nat)) : Int) - 1 = -1 := rfl
      rw [e9]
      clear e9
      have hxq : x = y * Q + L := by have := HXQ.out; rwa [Nat.pow_zero, Nat.div_one] at this
      have hQ : x / y = Q := by rw [hxq, Nat.mul_add_div HY0.out, Nat.div_eq_of_lt HLY.out, Nat.add_zero]
      have hL : x % y = L := by rw [hxq, Nat.mul_add_mod, Nat.mod_eq_of_lt HLY.out]
      have HQ := Lib.hid hQ
      have HL := Lib.hid hL
      have HVV := Lib.hid (show fval W64 M = Q by rw [HMV.out, Nat.pow_zero, Nat.mul_one])
      have HMD := Lib.hid (fun W (hb : Below wr.heap.size wr W) => made_nat2 (some ⟨w.heap.size + 1 + 1 + 1 + 1, 0, none⟩) n n Q M W HML.out HMF.out HVV.out (RT.of_blk (HBQ.out.below hb HBQ.out.lt) (fun t ht => by rw [Nat.zero_add, List.getElem?_toArray, List.getElem?_eq_getElem ht])) (Nat.le_refl _) (by omega))
      have hcl := HBL.out.cell 0
      have HK2r := Lib.hid (HK2.out.below HBE.out (by rw [HSZ.out]; omega))
      have HK3r := Lib.hid (HK3.out.below HBE.out (by rw [HSZ.out]; omega))
      simp at hcl
      clear hxq hQ hL ca cb
      go_upto_region 12 with fail
      go_region_with (first
        | (go_at_call 46; refine (HMD.out _ (below_drewN (Below.refl _ _) 1)).mono ?_; rintro e wm ⟨k, rfl, hlm, hbm⟩; have HLM := Lib.hid hlm; have HWM := Lib.hid (keepb (below_drewN (Below.refl _ _) 1) hbm); have hcm := keepc HWM.out hzr hcl; have HM2 := Lib.hid (HK2r.out.below HWM.out HK2r.out.lt); have HM3 := Lib.hid (HK3r.out.below HWM.out HK3r.out.lt); have c2 := HM2.out.cell 0; have f2 := HM2.out.frozen 0; have c3 := HM3.out.cell 0; have f3 := HM3.out.frozen 0; clear hlm hbm))
      all_goals
        have hp := put2 HM2.out HM3.out (by simp)
        have hp2 := fun v u => (hp v u).1
        have hp3 := fun v u => (hp v u).2
        clear hp
        go_wp2_with fail
        refine (?_ : bodyPost Tryd.prog Tryd.f31 (DivP x y w) .ret _ _)
        exact bodyPost_ret (v := .tuple #[.agg #[.slice (some ⟨w.heap.size + 1 + 1 + 1 + 1, 0, Option.none⟩) k n], .agg #[.slice A' n' c'], .nilIface]) (by simp [results, Tryd.results31, go_sem, hp2, hp3]) rfl
          ⟨_, k, n, A', n', c', rfl, by rw [HQ.out]; exact (HLM.out.set HM2.out (by decide) _).set (HM3.out.far (p := ⟨w.heap.size + 2, 0, Option.none⟩) (by simp) _) (by decide) _,
            by rw [HL.out]; exact ((HNL.out.below HWM.out).set HM2.out (by decide) _).set (HM3.out.far (p := ⟨w.heap.size + 2, 0, Option.none⟩) (by simp) _) (by decide) _,
            ((keepb HBW.out HWM.out).setCell (p := ⟨w.heap.size + 2, 0, Option.none⟩) (show w.heap.size ≤ w.heap.size + 2 by omega) _).setCell (p := ⟨w.heap.size + 3, 0, Option.none⟩) (show w.heap.size ≤ w.heap.size + 3 by omega) _⟩
    | succ i =>
      have e9 : (((i + 1 : Nat)) : Int) - 1 = (i : Int) := by omega
      rw [e9]
      clear e9
      have HB2 := Lib.hid (fun W (hb : Below wr.heap.size wr W) => bit_nat _ x i W (HV.out.below (keepb HBW.out hb)) (wf_nat i (by omega)))
      have hb1 : oneIf (bitV x i) = x / 2 ^ i % 2 := by
        unfold bitV oneIf
        have : x / 2 ^ i % 2 = 0 ∨ x / 2 ^ i % 2 = 1 := by omega
        rcases this with h | h <;> simp [h]
      have HDS := Lib.hid (div_step HXQ.out hb1.symm)
      have HTW := Lib.hid (fun W (hb : Below wr.heap.size wr W) => twice_nat (.agg #[.slice A' n' c']) L (bitV x i) W (⟨A', n', c', rfl, HNL.out.below hb⟩) (Nat.le_trans (blen_mono (Nat.le_of_lt HLY.out)) (Nat.le_trans HY.out (by decide))))
      clear hb1
      generalize bitV x i = bb at *
      have hob : oneIf bb ≤ 1 := by unfold oneIf; split <;> omega
      have HOB := Lib.hid hob
      generalize oneIf bb = b at *
      clear hob
      have hcl := HBL.out.cell 0
      have hfl := HBL.out.frozen 0
      simp at hcl
      go_upto_region 8 with fail
      go_cut [32] from 28 to 32 (fun s32 wx => ∃ (A2 : Option Addr) (n2 c2 : Nat), Blk wx (w.heap.size + 5) 26 #[.slice A2 n2 c2] ∧ NatL wx A2 n2 c2 (2 * L + b) ∧ Fresh (w.heap.size + 4 + 1) A2 ∧ Blk wx (w.heap.size + 4) 35 (M.map wv).toArray ∧ Below W4.heap.size W4 wx)
      case first =>
        go_region_with (first
          | (go_at_call_of 40 (Value.agg #[Value.slice A n c]); refine (HB2.out _ (below_drewN (Below.refl _ _) 1)).mono ?_; rintro e wb ⟨rfl, hbb⟩; have hbw : Below wr.heap.size wr wb := keepb (below_drewN (Below.refl _ _) 1) hbb; have hcb := keepc hbw hzr hcl; clear hbb)
          | (go_at_call_of 58 (Value.agg #[Value.slice A' n' c']); refine (HTW.out _ (by assumption)).mono ?_; rintro e w2 ⟨A2, n2, c2, rfl, hl2, hf2, hb2⟩; have HL2 := Lib.hid hl2; have hz2 := hb2.size; have HF2 := Lib.hid hf2; have HW2 := Lib.hid (keepb hbw hb2); have HBL2 := Lib.hid (HBL.out.below HW2.out hzr); have hc2 := HBL2.out.cell 0; have hf2' := HBL2.out.frozen 0; simp at hc2; clear hl2 hf2 hb2))
        all_goals
          go_wp2_with fail
          go_meet
          exact ⟨A2, n2, c2, HBL2.out.set1 0 (.slice A2 n2 c2), HL2.out.set HBL2.out (by decide) _, HF2.out.mono (by have := hbw.size; omega), (HBQ.out.below HW2.out (by omega)).far (p := ⟨w.heap.size + 5, 0, none⟩) (by simp) _, (keepb HBE.out HW2.out).setCell (p := ⟨w.heap.size + 5, 0, none⟩) (by rw [HSZ.out]; simp) _⟩
      case rest =>
        obtain ⟨A2, n2, c2, hbl2, hnl2, hfr2, hbq2, hbe2⟩ := hcut
        clear HB2 HTW hcl hfl ca cb hzr HBW
        have HBL2 := Lib.hid hbl2
        have HNL2 := Lib.hid hnl2
        have HFR2 := Lib.hid hfr2
        have HBQ2 := Lib.hid hbq2
        have HBE2 := Lib.hid hbe2
        have HBW2 := Lib.hid (keepb HB0.out hbe2)
        have hzx := hbl2.lt
        have cb := keepc hbe2 (by rw [HSZ.out]; omega) HB.out
        have c8 := hbl2.cell 0
        simp at c8
        have HLB : Hid (blen (2 * L + b) ≤ 1000000) := Lib.hid (Nat.le_trans (blen_twice (Nat.le_trans (blen_mono (Nat.le_of_lt HLY.out)) HY.out) HOB.out) (by decide))
        have HCM := Lib.hid (fun W (hb : Below _ _ W) => cmp_nat (.agg #[.slice A2 n2 c2]) (.agg #[.slice B m d]) (2 * L + b) y W (⟨A2, n2, c2, rfl, HNL2.out.below hb⟩) (HU.out.below (keepb HBW2.out hb)) HLB.out (Nat.le_trans HY.out (by decide)))
        have HSB := Lib.hid (fun W (hb : Below _ _ W) => sub_nat (.agg #[.slice A2 n2 c2]) (.agg #[.slice B m d]) (2 * L + b) y W (⟨A2, n2, c2, rfl, HNL2.out.below hb⟩) (HU.out.below (keepb HBW2.out hb)) HLB.out (Nat.le_trans HY.out (by decide)))
        clear hbl2 hnl2 hfr2 hbq2 hbe2
        by_cases hlt : 2 * L + b < y
        · have hc : cmpI (2 * L + b) y = -1 := by unfold cmpI; rw [if_neg (by omega), if_pos hlt]
          rw [hc] at HCM
          have HLT := Lib.hid hlt
          clear hc hlt
          go_wp2_with fail
          refine (HCM.out _ (Below.refl _ _)).mono ?_
          rintro e w3 ⟨rfl, hb3⟩
          have HB3 := Lib.hid hb3
          clear hb3 c8 cb
          go_wp2_with fail
          go_roundw
          case rel => exact ⟨i, 2 * Q, 2 * L + b, M, A2, n2, c2, by go_num, by omega, HDS.out.1, HLT.out, HML.out, HMF.out, by rw [HMV.out, Nat.pow_succ]; ac_rfl, HBQ2.out.below HB3.out (by omega), HBL2.out.below HB3.out hzx, HNL2.out.below HB3.out, HFR2.out, keepb HBE2.out HB3.out⟩
          case measure => simp [intOf]
        · have tc := cmpI_no hlt
          have HGE := Lib.hid (show y ≤ 2 * L + b by omega)
          clear hlt
          generalize cmpI (2 * L + b) y = cm at *
          go_wp2_with fail
          refine (HCM.out _ (Below.refl _ _)).mono ?_
          rintro e w3 ⟨rfl, hb3⟩
          have HB3 := Lib.hid hb3
          have c83 := keepc hb3 hzx c8
          have cb3 := keepc hb3 (by have := HBE2.out.size; have := HSZ.out; omega) cb
          clear hb3 c8 cb
          go_wp2_with fail
          refine (HSB.out _ HB3.out).mono ?_
          rintro e w4 h4
          obtain ⟨A4, n4, c4, rfl, hl4, hf4, hb4⟩ := h4.own HGE.out
          have HB4 := Lib.hid (keepb HB3.out hb4)
          have HBL4 := Lib.hid (HBL2.out.below HB4.out hzx)
          have HBQ4 := Lib.hid (HBQ2.out.below HB4.out HBQ2.out.lt)
          have HL4 := Lib.hid hl4
          have HF4 := Lib.hid (hf4.mono (show w.heap.size + 4 + 1 ≤ w3.heap.size by have := HB3.out.size; omega))
          have c84 := HBL4.out.cell 0
          have f84 := HBL4.out.frozen 0
          simp at c84
          clear hb4 hl4 hf4 h4 c83 cb3
          go_upto_region 11 with fail
          obtain ⟨W5, hW5⟩ : ∃ W5, W5 = w4.setCell ⟨w.heap.size + 5, 0, none⟩ (.slice A4 n4 c4) := ⟨_, rfl⟩
          have HBK5 : Hid (Blk W5 (w.heap.size + 5) 26 #[.slice A4 n4 c4]) := Lib.hid (by rw [hW5]; exact HBL4.out.set1 0 (.slice A4 n4 c4))
          have HBQ5 : Hid (Blk W5 (w.heap.size + 4) 35 (M.map wv).toArray) := Lib.hid (by rw [hW5]; exact HBQ4.out.far (p := ⟨w.heap.size + 5, 0, none⟩) (by simp) _)
          have HL5 : Hid (NatL W5 A4 n4 c4 (2 * L + b - y)) := Lib.hid (by rw [hW5]; exact HL4.out.set HBL4.out (by decide) _)
          have HBE5 : Hid (Below W4.heap.size W4 W5) := Lib.hid (by rw [hW5]; exact (keepb HBE2.out HB4.out).setCell (p := ⟨w.heap.size + 5, 0, none⟩) (by rw [HSZ.out]; simp) _)
          rw [← hW5]
          clear hW5
          obtain ⟨a, ha⟩ : ∃ a, a = i / 64 := ⟨_, rfl⟩
          obtain ⟨r, hr⟩ : ∃ r, r = i % 64 := ⟨_, rfl⟩
          have hr64 : r < 64 := by omega
          have han : a < n := by have := HBN.out; omega
          have hiar : i = 64 * a + r := by omega
          have hwm := word_mult HMF.out (show fval W64 M = Q * 2 ^ (64 * a + r + 1) by rw [← hiar]; exact HMV.out) hr64
          have ho := orN (L := 2 ^ r) hwm.1 (Nat.pow_lt_pow_right (by omega) (by omega)) hwm.2
          have HO := Lib.hid hwm.2
          have hca := blk_fig HBQ5.out (t := a) (by rw [HML.out]; exact han)
          have hfa := HBQ5.out.frozen a
          have e64 : (i : Int) / 64 = (a : Int) := by omega
          have e64' : (i : Int).tdiv 64 = (a : Int) := by rw [Int.tdiv_eq_ediv_of_nonneg (by omega)]; exact e64
          have e65 : (i : Int) % 64 = (r : Int) := by omega
          have e65' : (i : Int).tmod 64 = (r : Int) := by rw [Int.tmod_eq_emod_of_nonneg (by omega)]; exact e65
          have hai : (a : Int) < n := by omega
          have HFS : Hid (fval W64 (M.set a (M.getD a 0 + 2 ^ r)) = Q * 2 ^ (i + 1) + W64 ^ a * 2 ^ r) := Lib.hid (by
            have h := fval_set W64 M a (M.getD a 0 + 2 ^ r) (by rw [HML.out]; exact han)
            rw [HMV.out, Nat.mul_add] at h; omega)
          have HBQ6 := Lib.hid (show Blk _ (w.heap.size + 4) 35 ((M.set a (M.getD a 0 + 2 ^ r)).map wv).toArray by rw [← set_wv]; exact HBQ5.out.set1 a (wv (M.getD a 0 + 2 ^ r)))
          have HP : Hid (W64 ^ a * 2 ^ r = 2 ^ i) := Lib.hid (by rw [W64_pow, ← Nat.pow_mul, ← Nat.pow_add, ← hiar])
          have hone : IntKind.u64.wrap (2 ^ r) = ((2 ^ r : Nat) : Int) := by
            have h := shl_w 1 r
            rw [Nat.one_mul, Nat.mod_eq_of_lt (by rw [W64_pow]; exact Nat.pow_lt_pow_right (by omega) hr64)] at h
            rw [← Int.one_mul ((2 : Int) ^ r)]
            exact h
          clear hwm ha hr hiar
          generalize M.getD a 0 = H at *
          generalize 2 ^ r = R at *
          generalize H + R = z at *
          go_region
          go_wp2
          go_roundw
          case rel =>
            refine ⟨i, 2 * Q + 1, 2 * L + b - y, M.set a z, A4, n4, c4, by go_num, by omega, ?_, ?_, by simpa using HML.out, HMF.out.set HO.out, ?_, HBQ6.out, HBK5.out.far (p := ⟨w.heap.size + 4, a, none⟩) (by simp) _, HL5.out.far HF4.out _, HF4.out, ?_⟩
            · have := HDS.out.2; have := HGE.out; omega
            · have := HLY.out; have := HOB.out; omega
            · rw [HFS.out, HP.out, Nat.add_mul, Nat.one_mul, Nat.pow_succ]; congr 1; ac_rfl
            · exact below_drewN (HBE5.out.setCell (p := ⟨w.heap.size + 4, a, none⟩) (Nat.le_of_eq HSZ.out) _) 1
          case measure => simp [intOf]
end Go.Proofs.YtgihkmofpncobaaDoor

namespace Go.Proofs.YtgihkmofpncobaaDoor
open Go.RowKit
set_option linter.unusedSimpArgs false
set_option linter.unusedVariables false

theorem shl_step {x k lo hi i p : Nat} {acc l : List Nat} (h1 : x * p = lo + W64 * hi) (hl : acc.length = i) (hi' : i < l.length) (hx : l.getD i 0 = x)
    (h : fval W64 acc + W64 ^ i * k = fval W64 (l.take i) * p) : fval W64 (acc ++ [lo + k]) + W64 ^ (i + 1) * hi = fval W64 (l.take (i + 1)) * p := by
  have ht : l.take (i + 1) = l.take i ++ [x] := by
    rw [List.take_succ_eq_append_getElem hi']
    congr 2
    rw [← hx]; simp [List.getD, hi']
  rw [ht, fval_snoc, fval_snoc, hl, List.length_take, Nat.min_eq_left (by omega), Nat.pow_succ]
  have e1 : W64 ^ i * (x * p) = W64 ^ i * lo + W64 ^ i * W64 * hi := by rw [h1, Nat.mul_add, Nat.mul_assoc]
  rw [Nat.mul_add, Nat.add_mul, Nat.mul_assoc (W64 ^ i) x p]
  omega
theorem shl_word {X r : Nat} (hX : X < W64) (hr : r < 64) : X * 2 ^ r / W64 < 2 ^ r ∧ (∃ m, X * 2 ^ r % W64 = m * 2 ^ r) ∧ ∀ c, c < 2 ^ r → X * 2 ^ r % W64 + c < W64 := by
  have hp : 0 < 2 ^ r := Nat.pow_pos (by omega)
  have hW : W64 = 2 ^ (64 - r) * 2 ^ r := by rw [← Nat.pow_add, show 64 - r + r = 64 by omega]; rfl
  have h1 : X * 2 ^ r % W64 = X % 2 ^ (64 - r) * 2 ^ r := by rw [hW, Nat.mul_mod_mul_right]
  refine ⟨Nat.div_lt_of_lt_mul (Nat.mul_lt_mul_of_pos_right hX hp), ⟨_, h1⟩, fun c hc => ?_⟩
  have h2 : X % 2 ^ (64 - r) + 1 ≤ 2 ^ (64 - r) := Nat.mod_lt _ (Nat.pow_pos (by omega))
  have h3 := Nat.mul_le_mul_right (2 ^ r) h2
  rw [← hW, Nat.add_mul, Nat.one_mul, ← h1] at h3
  omega
theorem fval_noughts (a : Nat) (l : List Nat) : fval W64 (List.replicate a 0 ++ l) = W64 ^ a * fval W64 l := by
  rw [fval_append, fval_zero (fun d hd => (List.mem_replicate.1 hd).2), List.length_replicate, Nat.zero_add]
theorem zs_map (n : Nat) : zs (.int .u64 0) n = (List.replicate n 0).map wv := by unfold zs; rw [List.map_replicate]; rfl
theorem Figs.noughts (a : Nat) : Figs W64 (List.replicate a 0) := fun d hd => by rw [(List.mem_replicate.1 hd).2]; unfold W64; omega
theorem shlp (X r : Nat) (hX : X < W64) (hr : r < 64) (w : World) :
    Calls Tryd.prog 59 #[.agg #[wv 0, wv X], .int .i64 (r : Int)] w fun e w' => e = .returned (.agg #[wv (X * 2 ^ r / W64), wv (X * 2 ^ r % W64)]) ∧ Below w.heap.size w w' := by
  have h := shl_pair X (r : Int) (Nat.lt_of_lt_of_le hX (by unfold W64 P128; decide)) w
  have hc : cutN (r : Int) = r := by unfold cutN; omega
  have h1 : pHi X = 0 := Nat.div_eq_of_lt hX
  have h2 : pLo X = X := Nat.mod_eq_of_lt hX
  have h3 : X * 2 ^ r < P128 := Nat.lt_of_lt_of_le (Nat.mul_lt_mul'' hX (Nat.pow_lt_pow_right (by omega) hr)) (by unfold W64 P128; decide)
  unfold pv at h
  rw [hc, Nat.mod_eq_of_lt h3, h1, h2] at h
  exact h

set_option maxRecDepth 100000 in
set_option maxHeartbeats 4000000 in
theorem shl_nat (v : Value) (x : Nat) (k : Int) (w : World) (hv : NatW w v x) (hx : blen x ≤ 8192) (hk : k ≤ 9223372036854775807) :
    Calls Tryd.prog 34 #[v, .int .i64 k] w (NatB (x * 2 ^ k.toNat) w) := by
  have HV := Lib.hid hv
  obtain ⟨A, n, c, rfl, hl⟩ := hv
  have hn := natl_len hl
  have hz := natl_zero hl
  have hK : max k 0 = (k.toNat : Int) := by omega
  have hKI : (k.toNat : Int) ≤ 9223372036854775807 := by omega
  generalize k.toNat = K at *
  have HL := Lib.hid hl
  have hlen := fun W hb => len_nat _ x W (HV.out.below (w' := W) hb) (Nat.le_trans hx (by decide))
  have HLEN := Lib.hid hlen
  clear hl hlen
  have hn1 : n ≤ 20000 := by omega
  by_cases h0 : x = 0
  · obtain rfl : n = 0 := by omega
    subst h0
    have HP : Hid (NatB (0 * 2 ^ K) w = NatE 0 w) := by funext e w'; rw [Nat.zero_mul]; unfold NatB; rw [if_pos (by decide)]
    clear hz hn hx
    go_enter Tryd.func34, Tryd.ntmps34
    go_wp2_with fail
    exact bodyPost_ret (v := .tuple #[.agg #[.slice none 0 0], .nilIface]) (by simp [results, Tryd.results34, go_sem]) rfl (by rw [HP.out]; exact ⟨_, rfl, NatW.nil _, by go_grown⟩)
  · have hb := blen_mul x K h0
    have t0 : ((n : Int) == 0) = false := by rw [beq_eq_false_iff_ne]; omega
    have t0' : (n == 0) = false := by rw [beq_eq_false_iff_ne]; omega
    have hbl : blen x ≤ 8192 := hx
    by_cases hov : 8192 - (blen x : Int) < K
    · have HP : Hid (NatB (x * 2 ^ K) w = NatF 11 w) := by funext e w'; unfold NatB; rw [if_neg (by omega)]
      have t1 : decide (8192 - (blen x : Int) < K) = true := by simpa using hov
      clear hz hn hx h0 hb hov
      generalize blen x = bx at *
      go_enter Tryd.func34, Tryd.ntmps34
      go_wp2_with fail
      refine (HLEN.out _ (by go_grown)).mono ?_
      rintro e w1 ⟨rfl, hb1⟩
      have HBK1 : Hid (Blk w1 (w.heap.size + 1) 26 #[.slice none 0 0]) := (by have := Blk.new (w.alloc (.cells #[.slice A n c] 26)) 26 #[.slice none 0 0]; simp only [World.size_alloc] at this; exact this.below hb1 (by simp))
      have HB1 := Lib.hid (keepb (show Below w.heap.size w _ by go_grown) hb1)
      have hc1 := HBK1.out.cell 0
      have hf1 := HBK1.out.frozen 0
      simp at hc1
      have hp := HBK1.out.put (i := 0) (by simp)
      clear hb1
      go_wp2_with fail
      exact bodyPost_ret (v := .tuple #[.agg #[.slice none 0 0], enoV 11]) (by simp [results, Tryd.results34, go_sem, hp]) rfl (by rw [HP.out]; exact ⟨rfl, HB1.out.setCell (p := ⟨w.heap.size + 1, 0, Option.none⟩) (show w.heap.size ≤ w.heap.size + 1 by omega) _⟩)
    · have HP : Hid (NatB (x * 2 ^ K) w = NatE (x * 2 ^ K) w) := by funext e w'; unfold NatB; rw [if_pos (by omega)]
      have t1 : decide (8192 - (blen x : Int) < K) = false := by simpa using hov
      have hK8 : K ≤ 8192 := by omega
      obtain ⟨a, ha⟩ : ∃ a, a = K / 64 := ⟨_, rfl⟩
      obtain ⟨r, hr⟩ : ∃ r, r = K % 64 := ⟨_, rfl⟩
      have e64 : (K : Int) / 64 = (a : Int) := by omega
      have e65 : (K : Int) % 64 = (r : Int) := by omega
      have hr64 : r < 64 := by omega
      have ha1 : a ≤ 128 := by omega
      have HKA : Hid (2 ^ K = W64 ^ a * 2 ^ r) := Lib.hid (by rw [W64_pow, ← Nat.pow_mul, ← Nat.pow_add]; congr 1; omega)
      have hmk := fun W => run_mk ei_u64 .i64 .i64 a (a + n + 1) (by omega) (by omega) (by omega) W
      have e2 : ((a + n + 1 : Nat) : Int) = (a : Int) + (n : Int) + 1 := by omega
      rw [e2] at hmk
      clear hz hn hx h0 hb hov e2 ha hr
      generalize blen x = bx at *
      go_enter Tryd.func34, Tryd.ntmps34
      go_wp2_with fail
      refine (HLEN.out _ (by go_grown)).mono ?_
      rintro e w1 ⟨rfl, hb1⟩
      have HBK1 : Hid (Blk w1 (w.heap.size + 1) 26 #[.slice none 0 0]) := (by have := Blk.new (w.alloc (.cells #[.slice A n c] 26)) 26 #[.slice none 0 0]; simp only [World.size_alloc] at this; exact this.below hb1 (by simp))
      have HB1 := Lib.hid (keepb (show Below w.heap.size w _ by go_grown) hb1)
      have hsz := hb1.size
      simp at hsz
      have ca : w1.cell? ⟨w.heap.size, 0, none⟩ = some (.slice A n c) := keepc hb1 (by simp; omega) (keepc (below_new _ _) (by simp) (by simp))
      have ca2 : (w1.alloc (.cells (zs (.int .u64 0) (a + n + 1)).toArray 35)).cell? ⟨w.heap.size, 0, none⟩ = some (.slice A n c) := keepc (below_new _ _) (by omega) ca
      have HO := Lib.hid (made_own (e := 35) (z := .int .u64 0) (ok := okW) w1 w1.heap.size (Nat.le_refl _) a (a + n + 1) (by omega) (by omega) okW0)
      clear hb1
      go_wp2_with fail
      have HA := Lib.hid ca
      have HF := Lib.hid HL
      obtain ⟨l, hf, hln, hrr, hcc⟩ := HL.out
      have HLF := Lib.hid hf
      have HLN := Lib.hid hln
      clear ca ca2 hf hln hrr hcc
      go_loopw [6, 7, 40] (fun s6 s7 s40 wr => ∃ (j q : Nat) (acc : List Nat), s40 = .int .i64 j ∧ s7 = wv q ∧ q < 2 ^ r ∧ j ≤ n ∧ acc.length = j ∧ Figs W64 acc ∧ fval W64 acc + W64 ^ j * q = fval W64 (l.take j) * 2 ^ r ∧
          OwnR wr w1.heap.size 35 okW s6 (a + j) ((List.replicate a 0).map wv ++ acc.map wv) ∧ Below w1.heap.size w1 wr) (fun _ _ s _ => n - (intOf s).toNat)
      case atStart => exact ⟨0, 0, [], rfl, rfl, Nat.pow_pos (by omega), by omega, rfl, Figs.nil _, by simp [fval], by rw [List.map_nil, List.append_nil, ← zs_map]; exact HO.out, below_new _ _⟩
      case round =>
        obtain ⟨j, q, acc, rfl, rfl, hq, hj, hal, hfa, hinv, hu, hbel⟩ := hrel
        obtain ⟨A6, c6, hsh, _⟩ := hu.shape
        subst hsh
        have HQ := Lib.hid hq
        have HAL := Lib.hid hal
        have HFA := Lib.hid hfa
        have HINV := Lib.hid hinv
        have HU := Lib.hid hu
        have HBE := Lib.hid hbel
        have ca := keepc hbel (by omega) HA.out
        have hszr := hbel.size
        have HBW : Hid (Below w.heap.size w wr) := keepb HB1.out hbel
        clear hq hal hfa hinv hu hbel
        by_cases hlt : j < n
        · obtain ⟨g, o, rfl, hcx⟩ := (HL.out.below HBW.out).word hlt
          have hjl : j < l.length := by rw [HLN.out]; exact hlt
          have HLX := Lib.hid (HLF.out.get j)
          have hX : x / W64 ^ j % W64 < W64 := Nat.mod_lt _ (by unfold W64; omega)
          have t2 : decide ((j : Int) < n) = true := by simp; omega
          have t2' : decide (j < n) = true := by simp; omega
          have hlx : (j : Int) < n := by omega
          generalize x / W64 ^ j % W64 = X at *
          have HSH := Lib.hid (fun W => shlp X r hX hr64 W)
          obtain ⟨h1, h2, h3⟩ := shl_word hX hr64
          have ho := orN h2 HQ.out (h3 q HQ.out)
          have HZ := Lib.hid (h3 q HQ.out)
          have HX2 := Lib.hid (show X * 2 ^ r = X * 2 ^ r % W64 + W64 * (X * 2 ^ r / W64) from (Nat.mod_add_div _ _).symm)
          have HST := Lib.hid (shl_step HX2.out HAL.out hjl HLX.out HINV.out)
          have HHI := Lib.hid h1
          clear h1 h2 h3 hX hjl
          generalize X * 2 ^ r % W64 = lo at *
          generalize X * 2 ^ r / W64 = hi at *
          generalize lo + q = z at *
          go_wp2_with fail
          refine (HSH.out _).mono ?_
          rintro e w2 ⟨rfl, hb2⟩
          have HU2 := Lib.hid (HU.out.below hb2)
          have HB2 := Lib.hid (keepb HBE.out hb2)
          have hsz2 := hb2.size
          clear hb2 ca hcx
          go_upto_region 13 with fail
          obtain ⟨W3, hW3⟩ : ∃ W3, W3 = w2.alloc (.cells #[wv hi, wv z] 48) := ⟨_, rfl⟩
          have HBP : Hid (Blk W3 w2.heap.size 48 #[wv hi, wv z]) := Lib.hid (by rw [hW3]; exact Blk.new _ _ _)
          have HU3 : Hid (OwnR W3 w1.heap.size 35 okW (.slice A6 (a + j) c6) (a + j) ((List.replicate a 0).map wv ++ acc.map wv)) := Lib.hid (by rw [hW3]; exact HU2.out.below (below_new _ _))
          have HB3 : Hid (Below w1.heap.size w1 W3) := Lib.hid (by rw [hW3]; exact HB2.out.alloc HB2.out.size _)
          have hsz3 := HB3.out.size
          have p1 : W3.cell? ⟨w2.heap.size, 1, none⟩ = some (wv z) := by rw [HBP.out.cell]; rfl
          rw [← hW3]
          clear hW3
          go_wp2_with (at_builtin; refine wpList_app ei_u64 okW0 rfl (.tmp 54) (.tmp 57) rfl w1.heap.size _ _ _ rfl (HU3.out.below (below_new _ _)) _ _ _ _ _ rfl (RV.fresh W3 35 [wv z]) (fun u hu => by simp at hu; subst hu; rfl) (show a + j + 1 ≤ _ by omega) (show (a + j + 1) * 8 ≤ _ by omega) (Nat.le_trans hsz3 (below_new _ _).size) ?_; intro A3 c3 w3 hu3 hg3 ha3; have p0 : w3.cell? ⟨w2.heap.size, 0, none⟩ = some (wv hi) := (((HBP.out.alloc _).grown hg3 (fun h => HU3.out.apart HBP.out (by decide) h.symm)).cell 0).trans rfl)
          go_roundw
          case rel => exact ⟨j + 1, hi, acc ++ [z], by go_num, rfl, HHI.out, by omega, by simp [HAL.out], HFA.out.snoc HZ.out, HST.out, by rw [List.map_append, ← List.append_assoc]; exact hu3, (HB3.out.alloc hsz3 _).grown hg3 (by simp; omega) (fun t ht => (HU3.out.lt t ht).1)⟩
          case measure => simp [intOf]; omega
        · obtain rfl : j = n := by omega
          have t2 : decide ((j : Int) < j) = false := by simp
          have HQW : Hid (q < W64) := Lib.hid (Nat.lt_trans HQ.out (by rw [W64_pow]; exact Nat.pow_lt_pow_right (by omega) hr64))
          have HVV : Hid (fval W64 (List.replicate a 0 ++ (acc ++ [q])) = x * 2 ^ K) := Lib.hid (by
            rw [fval_noughts, fval_snoc, HAL.out, HINV.out, ← HLN.out, List.take_length, HLF.out.val, HKA.out, Nat.mul_left_comm])
          clear hlt
          go_wp2_with (at_builtin; refine wpList_app ei_u64 okW0 rfl (.tmp 62) (.tmp 64) rfl w1.heap.size _ _ _ rfl (HU.out.below (below_new _ _)) _ _ _ _ _ rfl (RV.fresh wr 35 [wv q]) (fun u hu => by simp at hu; subst hu; rfl) (show a + j + 1 ≤ _ by omega) (show (a + j + 1) * 8 ≤ _ by omega) (Nat.le_trans hszr (below_new _ _).size) ?_; intro A3 c3 w3 hu3 hg3 ha3)
          have hc3 : a + j + 1 ≤ c3 := by
            obtain ⟨_, _, he3, hc3⟩ := hu3.shape
            have := (Value.slice.inj he3).2.2; omega
          have HB3 := Lib.hid (show Below w1.heap.size w1 w3 from (HBE.out.alloc hszr _).grown hg3 (by simp; omega) (fun t ht => (HU.out.lt t ht).1))
          have HMD := Lib.hid (made_nat2 A3 (a + j + 1) c3 (x * 2 ^ K) (List.replicate a 0 ++ (acc ++ [q])) w3 (by simp [HAL.out]; omega) ((Figs.noughts a).append (HFA.out.snoc HQW.out)) HVV.out (by rw [List.map_append, List.map_append, ← List.append_assoc]; exact RT.of_own hu3) hc3 (by omega))
          have HBK3 : Hid (Blk w3 (w.heap.size + 1) 26 #[.slice none 0 0]) := HBK1.out.below HB3.out HBK1.out.lt
          clear hu3 hg3 ha3 hc3
          refine HMD.out.mono ?_
          rintro e w4 ⟨n4, rfl, hl4, hb4⟩
          have HB4 := Lib.hid (keepb (keepb HB1.out HB3.out) hb4)
          have HBK4 : Hid (Blk w4 (w.heap.size + 1) 26 #[.slice none 0 0]) := HBK3.out.below hb4 HBK3.out.lt
          have HV4 := Lib.hid hl4
          have hc5 := HBK4.out.cell 0
          have hf5 := HBK4.out.frozen 0
          simp at hc5
          have hp := HBK4.out.put (i := 0) (by simp)
          clear hb4 hl4
          go_wp2_with fail
          exact bodyPost_ret (v := .tuple #[.agg #[.slice A3 n4 c3], .nilIface]) (by simp [results, Tryd.results34, go_sem, hp]) rfl (by rw [HP.out]; exact ⟨_, rfl, ⟨_, _, _, rfl, HV4.out.set HBK4.out (by decide) _⟩, HB4.out.setCell (p := ⟨w.heap.size + 1, 0, Option.none⟩) (show w.heap.size ≤ w.heap.size + 1 by omega) _⟩)
end Go.Proofs.YtgihkmofpncobaaDoor

namespace Go.Proofs.YtgihkmofpncobaaDoor
open Go.RowKit
set_option linter.unusedSimpArgs false
set_option linter.unusedVariables false

theorem W64p (n : Nat) : W64 ^ n = 2 ^ (64 * n) := by rw [W64_pow, Nat.pow_mul]
/-- A word of a number that is shifted down: of two words of the number. -/
theorem shr_word {x j r : Nat} (hr : r < 64) : (x / W64 ^ j % P128) / 2 ^ r % W64 = x / 2 ^ (64 * j + r) % W64 ∧ pHi (x / W64 ^ j % P128) = x / W64 ^ (j + 1) % W64 ∧ pLo (x / W64 ^ j % P128) = x / W64 ^ j % W64 := by
  have h1 : P128 = 2 ^ r * 2 ^ (128 - r) := by rw [← Nat.pow_add, show r + (128 - r) = 128 by omega]; rfl
  have h2 : W64 ∣ 2 ^ (128 - r) := ⟨2 ^ (64 - r), by rw [W64_pow, ← Nat.pow_add]; congr 1; omega⟩
  have h3 : P128 = W64 * W64 := rfl
  refine ⟨?_, ?_, ?_⟩
  · rw [h1, Nat.mod_mul_right_div_self, Nat.mod_mod_of_dvd _ h2, Nat.div_div_eq_div_mul, W64p, ← Nat.pow_add]
  · unfold pHi
    rw [h3, Nat.mod_mul_right_div_self, Nat.div_div_eq_div_mul, ← Nat.pow_succ]
  · unfold pLo
    rw [h3, Nat.mod_mul_right_mod]
/-- Was something lost of the words below i? -/
def lostV (x K i : Nat) : Bool := decide (x % 2 ^ min (64 * i) K ≠ 0)
theorem lost_low {x K i : Nat} (h : i < K / 64) : lostV x K (i + 1) = (lostV x K i || decide (x / W64 ^ i % W64 ≠ 0)) := by
  unfold lostV
  rw [Nat.min_eq_left (by omega), Nat.min_eq_left (by omega), show 64 * (i + 1) = 64 * i + 64 by omega, Nat.pow_add, Nat.mod_mul, ← W64p]
  have hp : 0 < W64 ^ i := Nat.pow_pos (by unfold W64; omega)
  show decide (x % W64 ^ i + W64 ^ i * (x / W64 ^ i % W64) ≠ 0) = _
  generalize x / W64 ^ i % W64 = X
  cases X with
  | zero => simp
  | succ X =>
    have : 0 < W64 ^ i * (X + 1) := Nat.mul_pos hp (by omega)
    simp; omega
theorem lost_at {x K i : Nat} (h : i = K / 64) : lostV x K (i + 1) = (lostV x K i || decide (x / W64 ^ i % W64 % 2 ^ (K % 64) ≠ 0)) := by
  unfold lostV
  have hK : K = 64 * i + K % 64 := by omega
  generalize K % 64 = r at *
  have hr : r < 64 := by omega
  rw [Nat.min_eq_right (by omega), Nat.min_eq_left (by omega)]
  rw [hK, Nat.pow_add, Nat.mod_mul, ← W64p]
  have hp : 0 < W64 ^ i := Nat.pow_pos (by unfold W64; omega)
  have h2 : x / W64 ^ i % W64 % 2 ^ r = x / W64 ^ i % 2 ^ r := Nat.mod_mod_of_dvd _ ⟨2 ^ (64 - r), by rw [W64_pow, ← Nat.pow_add]; congr 1; omega⟩
  rw [h2]
  generalize x / W64 ^ i % 2 ^ r = X
  cases X with
  | zero => simp
  | succ X =>
    have : 0 < W64 ^ i * (X + 1) := Nat.mul_pos hp (by omega)
    simp; omega
theorem lost_high {x K i : Nat} (h : K / 64 < i) : lostV x K (i + 1) = lostV x K i := by
  unfold lostV
  rw [Nat.min_eq_right (by omega), Nat.min_eq_right (by omega)]
theorem lost_end {x K n : Nat} (h : x < W64 ^ n) : lostV x K n = decide (x % 2 ^ K ≠ 0) := by
  unfold lostV
  by_cases hk : K ≤ 64 * n
  · rw [Nat.min_eq_right hk]
  · rw [W64p] at h
    rw [Nat.min_eq_left (by omega), Nat.mod_eq_of_lt h, Nat.mod_eq_of_lt (Nat.lt_of_lt_of_le h (Nat.pow_le_pow_right (by omega) (by omega)))]
theorem shr_end {x K n : Nat} (h : x < W64 ^ n) : fval W64 (lows W64 (n - K / 64) (x / 2 ^ K)) = x / 2 ^ K := by
  rw [fval_lows]
  apply Nat.mod_eq_of_lt
  rw [W64p] at h ⊢
  rw [Nat.div_lt_iff_lt_mul (Nat.pow_pos (by omega)), ← Nat.pow_add]
  exact Nat.lt_of_lt_of_le h (Nat.pow_le_pow_right (by omega) (by omega))
theorem maskR (X r : Nat) (hX : X < W64) (hr : r < 64) : bits .and .u64 (X : Int) ((2 ^ r - 1 : Nat) : Int) = ((X % 2 ^ r : Nat) : Int) := by
  have h := bits_and_u64_nat X (2 ^ r - 1) hX (by have := Nat.pow_lt_pow_right (show 1 < 2 by omega) hr; unfold W64 at *; omega)
  rw [Nat.and_two_pow_sub_one_eq_mod] at h
  exact h
theorem shrp (x j r : Nat) (hr : r < 64) (w : World) :
    Calls Tryd.prog 60 #[.agg #[wv (x / W64 ^ (j + 1) % W64), wv (x / W64 ^ j % W64)], .int .i64 (r : Int)] w fun e w' => (∃ hi, e = .returned (.agg #[wv hi, wv (x / 2 ^ (64 * j + r) % W64)])) ∧ Below w.heap.size w w' := by
  obtain ⟨h1, h2, h3⟩ := shr_word (x := x) (j := j) hr
  have h := shr_pair (x / W64 ^ j % P128) (r : Int) (Nat.mod_lt _ (by unfold P128 W64; omega)) w
  have hc : cutN (r : Int) = r := by unfold cutN; omega
  have e1 : pv (x / W64 ^ j % P128) = .agg #[wv (x / W64 ^ (j + 1) % W64), wv (x / W64 ^ j % W64)] := by unfold pv; rw [h2, h3]
  have e2 : pv (x / W64 ^ j % P128 / 2 ^ r) = .agg #[wv (pHi (x / W64 ^ j % P128 / 2 ^ r)), wv (x / 2 ^ (64 * j + r) % W64)] := by
    rw [← h1]; rfl
  rw [hc, e1, e2] at h
  exact h.mono fun e w' ⟨h1, h2⟩ => ⟨⟨_, h1⟩, h2⟩
end Go.Proofs.YtgihkmofpncobaaDoor

namespace Go.Proofs.YtgihkmofpncobaaDoor
open Go.RowKit
set_option linter.unusedSimpArgs false
set_option linter.unusedVariables false

/-- What Shr answers: the number shifted down, and whether something was lost. -/
def ShrP (x K : Nat) (w : World) (e : Ending) (w' : World) : Prop :=
  ∃ A n c, e = .returned (.tuple #[.agg #[.slice A n c], .bool (decide (x % 2 ^ K ≠ 0))]) ∧ NatL w' A n c (x / 2 ^ K) ∧ Below w.heap.size w w'

theorem field_lo (a b : Nat) (w : World) : (Instr.field 48 (.agg #[wv a, wv b]) 1).run Tryd.prog w = .ok (wv b) w := by kernel_rfl
theorem ne_dec (X : Nat) : ((X : Int) != 0) = decide (X ≠ 0) := by
  cases X with
  | zero => rfl
  | succ X => simp; omega
theorem lows_next {x K a r j : Nat} (ha : a = K / 64) (hr : r = K % 64) (h : a ≤ j) : lows W64 (j + 1 - a) (x / 2 ^ K) = lows W64 (j - a) (x / 2 ^ K) ++ [x / 2 ^ (64 * j + r) % W64] := by
  rw [show j + 1 - a = j - a + 1 by omega, lows_snoc, Nat.div_div_eq_div_mul, W64p, ← Nat.pow_add]
  congr 5
  omega
set_option maxRecDepth 100000 in
set_option maxHeartbeats 4000000 in
theorem nshr_nat (v : Value) (x : Nat) (k : Int) (w : World) (hv : NatW w v x) (hx : blen x ≤ 1000000) (hk : k ≤ 9223372036854775807) :
    Calls Tryd.prog 36 #[v, .int .i64 k] w (ShrP x k.toNat w) := by
  have HV := Lib.hid hv
  obtain ⟨A, n, c, rfl, hl⟩ := hv
  have hn := natl_len hl
  have hxn : x < W64 ^ n := by obtain ⟨l, h1, rfl, _⟩ := hl; exact h1.lt
  have HXN := Lib.hid hxn
  have hK : max k 0 = (k.toNat : Int) := by omega
  have hKI : (k.toNat : Int) ≤ 9223372036854775807 := by omega
  generalize k.toNat = K at *
  have HL := Lib.hid hl
  have hn1 : n ≤ 20000 := by omega
  obtain ⟨a, ha⟩ : ∃ a, a = K / 64 := ⟨_, rfl⟩
  obtain ⟨r, hr⟩ : ∃ r, r = K % 64 := ⟨_, rfl⟩
  have e64 : (K : Int) / 64 = (a : Int) := by omega
  have e65 : (K : Int) % 64 = (r : Int) := by omega
  have hr64 : r < 64 := by omega
  have HKA := Lib.hid ha
  have HKR := Lib.hid hr
  have HLE := Lib.hid (lost_end (K := K) hxn)
  have HSE := Lib.hid (shr_end (K := K) hxn)
  have HL0 : Hid (lostV x K 0 = false) := Lib.hid (by unfold lostV; simp [Nat.mod_one])
  clear hn hx hxn hl ha hr
  go_enter Tryd.func36, Tryd.ntmps36
  go_wp2_with fail
  obtain ⟨W0, hW0⟩ : ∃ W0, W0 = (w.alloc (.cells #[.slice A n c] 26)).alloc (.cells #[.slice none 0 0] 26) := ⟨_, rfl⟩
  have hb0 : Below w.heap.size w W0 := by rw [hW0]; go_grown
  have hsz : W0.heap.size = w.heap.size + 1 + 1 := by rw [hW0]; simp
  have ca : W0.cell? ⟨w.heap.size, 0, none⟩ = some (.slice A n c) := by rw [hW0]; exact keepc (below_new _ _) (by simp) (by simp)
  have hbk : Blk W0 (w.heap.size + 1) 26 #[.slice none 0 0] := by
    have := Blk.new (w.alloc (.cells #[.slice A n c] 26)) 26 #[.slice none 0 0]
    simp only [World.size_alloc] at this
    rw [hW0]; exact this
  rw [← hW0]
  have HB0 := Lib.hid hb0
  have HSZ := Lib.hid hsz
  have HBK := Lib.hid hbk
  have HA := Lib.hid ca
  clear hW0 hb0 hbk ca hsz
  go_loopw [6, 7, 15] (fun s6 s7 s15 wr => ∃ (j : Nat), s15 = .int .i64 j ∧ s6 = .bool (lostV x K j) ∧ j ≤ n ∧
      OwnR wr W0.heap.size 35 okW s7 (j - a) ((lows W64 (j - a) (x / 2 ^ K)).map wv) ∧ Below W0.heap.size W0 wr) (fun _ _ s _ => n - (intOf s).toNat)
  case atStart => exact ⟨0, rfl, by rw [HL0.out], by omega, by rw [Nat.zero_sub]; exact OwnR.nil _ _ _ _, Below.refl _ _⟩
  case round =>
    obtain ⟨j, rfl, rfl, hj, hu, hbel⟩ := hrel
    obtain ⟨A7, c7, hsh, _⟩ := hu.shape
    subst hsh
    have HU := Lib.hid hu
    have HBE := Lib.hid hbel
    have ca := keepc hbel (by rw [HSZ.out]; omega) HA.out
    have hszr := hbel.size
    have HBW : Hid (Below w.heap.size w wr) := keepb HB0.out hbel
    clear hu hbel
    by_cases hlt : j < n
    · obtain ⟨g, o, rfl, hcx⟩ := (HL.out.below HBW.out).word hlt
      have t2 : decide ((j : Int) < n) = true := by simp; omega
      have t2' : decide (j < n) = true := by simp; omega
      have hlx : (j : Int) < n := by omega
      have hX : x / W64 ^ j % W64 < W64 := Nat.mod_lt _ (by unfold W64; omega)
      by_cases hja : j < a
      · have HLO := Lib.hid (lost_low (x := x) (K := K) (i := j) (by rw [← HKA.out]; exact hja))
        have t3 : decide ((j : Int) < a) = true := by simp; omega
        have t3' : decide (j < a) = true := by simp; omega
        have hne := ne_dec (x / W64 ^ j % W64)
        have hem : j - a = 0 ∧ j + 1 - a = 0 := by omega
        generalize x / W64 ^ j % W64 = X at *
        generalize decide (X ≠ 0) = nz at *
        generalize lostV x K j = lj at *
        cases lj
        all_goals
          go_wp2_with fail
          go_roundw
          case rel => exact ⟨j + 1, by go_num, by rw [HLO.out]; simp, by omega, by rw [hem.2]; have := HU.out; rw [hem.1] at this; rw [hem.1]; exact this, HBE.out⟩
          case measure => simp [intOf]; omega
      · have t3 : decide ((j : Int) < a) = false := by simp; omega
        have t3' : decide (j < a) = false := by simp; omega
        have HLN := Lib.hid (lows_next (x := x) HKA.out HKR.out (show a ≤ j by omega))
        have hja1 : j + 1 - a = j - a + 1 := by omega
        have hw := (fun W hb => word_nat _ x (j + 1) W (HV.out.below (w' := W) hb) (by omega))
        have ej : ((j + 1 : Nat) : Int) = (j : Int) + 1 := by omega
        simp only [ej] at hw
        have HWD := Lib.hid hw
        have HSH := Lib.hid (fun W => shrp x j r hr64 W)
        have HOK : Hid (x / 2 ^ (64 * j + r) % W64 < W64) := Lib.hid (Nat.mod_lt _ (by unfold W64; omega))
        have hone : IntKind.u64.wrap (2 ^ r) = ((2 ^ r : Nat) : Int) := by
          have h := shl_w 1 r
          rw [Nat.one_mul, Nat.mod_eq_of_lt (by rw [W64_pow]; exact Nat.pow_lt_pow_right (by omega) hr64)] at h
          rw [← Int.one_mul ((2 : Int) ^ r)]
          exact h
        have hsub : IntKind.u64.wrap (((2 ^ r : Nat) : Int) - 1) = ((2 ^ r - 1 : Nat) : Int) := by
          have h1 : 0 < 2 ^ r := Nat.pow_pos (by omega)
          have h2 : 2 ^ r < W64 := by rw [W64_pow]; exact Nat.pow_lt_pow_right (by omega) hr64
          rw [show ((2 ^ r : Nat) : Int) - 1 = ((2 ^ r - 1 : Nat) : Int) by omega]
          exact wrapN _ (by omega)
        have hmask := maskR (x / W64 ^ j % W64) r hX hr64
        have hne := ne_dec (x / W64 ^ j % W64 % 2 ^ r)
        have hcase : (j = a ∧ ((j : Int) == (a : Int)) = true ∧ lostV x K (j + 1) = (lostV x K j || decide (x / W64 ^ j % W64 % 2 ^ r ≠ 0))) ∨ (((j : Int) == (a : Int)) = false ∧ lostV x K (j + 1) = lostV x K j) := by
          by_cases h : j = a
          · left; exact ⟨h, by simp [h], by rw [HKR.out]; exact lost_at (by rw [h, HKA.out])⟩
          · right; exact ⟨by rw [beq_eq_false_iff_ne]; omega, lost_high (by rw [← HKA.out]; omega)⟩
        clear hw ej
        generalize x / W64 ^ j % W64 % 2 ^ r = Y at *
        generalize 2 ^ r - 1 = M at *
        generalize 2 ^ r = R at *
        generalize x / 2 ^ (64 * j + r) % W64 = z at *
        generalize x / W64 ^ (j + 1) % W64 = X1 at *
        generalize x / W64 ^ j % W64 = X at *
        generalize decide (Y ≠ 0) = nz at *
        generalize hlj : lostV x K j = lj at *
        obtain ⟨nl, HNL, hnl⟩ : ∃ nl, Hid (lostV x K (j + 1) = nl) ∧ ((lj = true ∧ nl = true) ∨ (lj = false ∧ ((j : Int) == (a : Int)) = true ∧ nl = nz) ∨ (lj = false ∧ ((j : Int) == (a : Int)) = false ∧ nl = false)) := by
          rcases hcase with ⟨_, h1, h2⟩ | ⟨h1, h2⟩
          · refine ⟨_, Lib.hid h2, ?_⟩
            cases lj <;> simp [h1]
          · refine ⟨_, Lib.hid h2, ?_⟩
            cases lj <;> simp [h1]
        clear hcase hlj hX
        rcases hnl with ⟨rfl, rfl⟩ | ⟨rfl, tq, rfl⟩ | ⟨rfl, tq, rfl⟩
        all_goals
          go_wp2_with fail
          refine (HWD.out _ HBW.out).mono ?_
          rintro e w2 ⟨rfl, hb2⟩
          have HU2 := Lib.hid (HU.out.below hb2)
          have HB2 := Lib.hid (keepb HBE.out hb2)
          clear hb2
          go_wp2_with fail
          refine (HSH.out _).mono ?_
          rintro e w3 ⟨⟨hi, rfl⟩, hb3⟩
          have HU3 := Lib.hid (HU2.out.below hb3)
          have HB3 := Lib.hid (keepb HB2.out hb3)
          have hsz3 := HB3.out.size
          have fld := fun W => field_lo hi z W
          clear hb3
          go_wp2_with (at_builtin; refine wpList_app ei_u64 okW0 rfl (.tmp 36) (.tmp 47) rfl W0.heap.size _ _ _ rfl (HU3.out.below (below_new _ _)) _ _ _ _ _ rfl (RV.fresh w3 35 [wv z]) (fun u hu => by simp at hu; subst hu; rfl) (show j - a + 1 ≤ _ by omega) (show (j - a + 1) * 8 ≤ _ by omega) (Nat.le_trans hsz3 (below_new _ _).size) ?_; intro A3 c3 w4 hu4 hg4 ha4)
          go_roundw
          case rel => exact ⟨j + 1, by go_num, by rw [HNL.out], by omega, by rw [HLN.out, List.map_append, hja1]; exact hu4, (HB3.out.alloc hsz3 _).grown hg4 (by simp; omega) (fun t ht => (HU3.out.lt t ht).1)⟩
          case measure => simp [intOf]; omega
    · obtain rfl : j = n := by omega
      have t2 : decide ((j : Int) < j) = false := by simp
      have hc7 : j - a ≤ c7 := by
        obtain ⟨_, _, he3, hc3⟩ := HU.out.shape
        have := (Value.slice.inj he3).2.2; omega
      have HVV := Lib.hid (show fval W64 (lows W64 (j - a) (x / 2 ^ K)) = x / 2 ^ K by rw [HKA.out]; exact HSE.out)
      have HMD := Lib.hid (made_nat2 A7 (j - a) c7 (x / 2 ^ K) (lows W64 (j - a) (x / 2 ^ K)) wr (lows_length _ _ _) (lows_figs _ _ _ (by unfold W64; omega)) HVV.out (RT.of_own HU.out) hc7 (by omega))
      have HBKr : Hid (Blk wr (w.heap.size + 1) 26 #[.slice none 0 0]) := HBK.out.below HBE.out HBK.out.lt
      clear hlt hc7
      rw [HLE.out]
      generalize hdd : decide (x % 2 ^ K ≠ 0) = dd at *
      have HDD := Lib.hid hdd
      clear hdd
      go_wp2_with fail
      refine HMD.out.mono ?_
      rintro e w4 ⟨n4, rfl, hl4, hb4⟩
      have HB4 := Lib.hid (keepb HBW.out hb4)
      have HBK4 : Hid (Blk w4 (w.heap.size + 1) 26 #[.slice none 0 0]) := HBKr.out.below hb4 HBKr.out.lt
      have HV4 := Lib.hid hl4
      have hc5 := HBK4.out.cell 0
      have hf5 := HBK4.out.frozen 0
      simp at hc5
      have hp := HBK4.out.put (i := 0) (by simp)
      clear hb4 hl4
      go_wp2_with fail
      exact bodyPost_ret (v := .tuple #[.agg #[.slice A7 n4 c7], .bool dd]) (by simp [results, Tryd.results36, go_sem, hp]) rfl ⟨_, _, _, by rw [HDD.out], HV4.out.set HBK4.out (by decide) _, HB4.out.setCell (p := ⟨w.heap.size + 1, 0, Option.none⟩) (show w.heap.size ≤ w.heap.size + 1 by omega) _⟩
end Go.Proofs.YtgihkmofpncobaaDoor
