/- The contract of natural numbers' Cmp. -/
import Derived.Test.YtjggmdlecdbeeaaGreatDoorNatC
import Derived.Test.YtjggmdlecdbeeaaGreatDoorPairC
import Derived.Deep.RegionHeld3
namespace Go.Proofs.YtjggmdlecdbeeaaGreatDoor
open Go.RowKit
set_option linter.unusedSimpArgs false
set_option linter.unusedVariables false

theorem cmpI_step (x y : Nat) (j : Nat) (h : x / W64 ^ (j + 1) = y / W64 ^ (j + 1)) : (x / W64 ^ j = y / W64 ^ j ↔ x / W64 ^ j % W64 = y / W64 ^ j % W64) ∧ (x / W64 ^ j % W64 < y / W64 ^ j % W64 → x < y) ∧ (y / W64 ^ j % W64 < x / W64 ^ j % W64 → y < x) := by
  have e : ∀ z, z / W64 ^ j = W64 * (z / W64 ^ (j + 1)) + z / W64 ^ j % W64 := fun z => by
    rw [Nat.pow_succ, ← Nat.div_div_eq_div_mul, Nat.div_add_mod]
  have ex := e x
  have ey := e y
  rw [h] at ex
  refine ⟨⟨fun h1 => by rw [h1], fun h1 => by rw [ex, ey, h1]⟩, fun h1 => ?_, fun h1 => ?_⟩
  · have h2 : x / W64 ^ j < y / W64 ^ j := by rw [ex, ey]; omega
    exact Nat.lt_of_not_le fun h3 => Nat.not_le_of_lt h2 (Nat.div_le_div_right h3)
  · have h2 : y / W64 ^ j < x / W64 ^ j := by rw [ex, ey]; omega
    exact Nat.lt_of_not_le fun h3 => Nat.not_le_of_lt h2 (Nat.div_le_div_right h3)

theorem s_call {wr W w1 : World} {b c : Nat} {v u : Value} (h1 : W.cell? ⟨b, 0, none⟩ = some v) (h2 : W.cell? ⟨c, 0, none⟩ = some u) (h3 : Below wr.heap.size wr W) (hz : b < wr.heap.size) (hz2 : c < wr.heap.size) (hb : Below W.heap.size W w1) :
    w1.cell? ⟨b, 0, none⟩ = some v ∧ w1.cell? ⟨c, 0, none⟩ = some u ∧ Below wr.heap.size wr w1 :=
  ⟨keepc hb (Nat.lt_of_lt_of_le hz h3.size) h1, keepc hb (Nat.lt_of_lt_of_le hz2 h3.size) h2, keepb h3 hb⟩
theorem s_drew {wr W : World} {b c : Nat} {v u : Value} (h1 : W.cell? ⟨b, 0, none⟩ = some v) (h2 : W.cell? ⟨c, 0, none⟩ = some u) (h3 : Below wr.heap.size wr W) :
    W.drew.cell? ⟨b, 0, none⟩ = some v ∧ W.drew.cell? ⟨c, 0, none⟩ = some u ∧ Below wr.heap.size wr W.drew := ⟨h1, h2, ⟨h3.os, h3.tape, h3.output, h3.size, h3.block⟩⟩

set_option maxRecDepth 100000 in
set_option maxHeartbeats 4000000 in
theorem cmp_nat (v u : Value) (x y : Nat) (w : World) (hv : NatW w v x) (hu : NatW w u y) (hx : blen x ≤ 1000000) (hy : blen y ≤ 1000000) :
    Calls Tryz.prog 120 #[v, u] w fun e w' => e = .returned (.int .i64 (cmpI x y)) ∧ Below w.heap.size w w' := by
  have HV := Lib.hid hv
  have HU := Lib.hid hu
  obtain ⟨A, n, c, rfl, hl⟩ := hv
  obtain ⟨B, m, d, rfl, hk⟩ := hu
  have hn := natl_len hl
  have hm := natl_len hk
  have hxn : x < W64 ^ n := by obtain ⟨l, h1, rfl, _⟩ := hl; exact h1.lt
  have hym : y < W64 ^ m := by obtain ⟨l, h1, rfl, _⟩ := hk; exact h1.lt
  have hW : 0 < W64 := by unfold W64; omega
  obtain ⟨q, hq⟩ : ∃ q, q = max n m := ⟨_, rfl⟩
  have hq0 : x / W64 ^ q = y / W64 ^ q := by
    rw [Nat.div_eq_of_lt (Nat.lt_of_lt_of_le hxn (Nat.pow_le_pow_right hW (by omega))), Nat.div_eq_of_lt (Nat.lt_of_lt_of_le hym (Nat.pow_le_pow_right hW (by omega)))]
  have HQ0 := Lib.hid hq0
  have hmax : max (n : Int) (m : Int) = (q : Int) := by omega
  have hq1 : q ≤ 20000 := by omega
  clear hl hk hn hm hxn hym hW hq hq0 hx hy
  go_enter Tryz.func120, Tryz.ntmps120
  go_wp2_with fail
  obtain ⟨W0, hW0⟩ : ∃ W0, W0 = (w.alloc (.cells #[.slice A n c] 126)).alloc (.cells #[.slice B m d] 126) := ⟨_, rfl⟩
  have hb0 : Below w.heap.size w W0 := by rw [hW0]; go_grown
  have hsz : W0.heap.size = w.heap.size + 1 + 1 := by rw [hW0]; simp
  have ca : W0.cell? ⟨w.heap.size, 0, none⟩ = some (.slice A n c) := by rw [hW0]; simp
  have cb : W0.cell? ⟨w.heap.size + 1, 0, none⟩ = some (.slice B m d) := by rw [hW0]; simp
  rw [← hW0]
  have HB0 := Lib.hid hb0
  have HSZ := Lib.hid hsz
  have HA := Lib.hid ca
  have HB := Lib.hid cb
  clear hW0 hb0 hsz ca cb
  go_loopw [5] (fun s wr => ∃ j : Nat, s = .int .i64 ((j : Int) - 1) ∧ j ≤ q ∧ x / W64 ^ j = y / W64 ^ j ∧ Below W0.heap.size W0 wr) (fun s _ => (intOf s + 1).toNat)
  case atStart => exact ⟨q, rfl, Nat.le_refl _, HQ0.out, Below.refl _ _⟩
  case round =>
    obtain ⟨j, rfl, hj, heq, hbel⟩ := hrel
    have HEQ := Lib.hid heq
    have HBE := Lib.hid hbel
    have ca := keepc hbel (by rw [HSZ.out]; omega) HA.out
    have cb := keepc hbel (by rw [HSZ.out]; omega) HB.out
    have hszr : w.heap.size + 1 + 1 ≤ wr.heap.size := by have := hbel.size; rw [HSZ.out] at this; exact this
    clear heq hbel
    cases j with
    | zero =>
      have hxy : x = y := by have := HEQ.out; simpa using this
      have hc : cmpI x y = 0 := by unfold cmpI; rw [if_pos hxy]
      have HC := Lib.hid hc
      clear hxy hc
      go_wp2_with fail
      go_ret
      exact ⟨by rw [HC.out]; rfl, keepb HB0.out HBE.out⟩
    | succ i =>
      have HST := Lib.hid (cmpI_step x y i HEQ.out)
      have HWX := Lib.hid (fun W hb => word_nat _ x i W (HV.out.below hb) (by omega))
      have HWY := Lib.hid (fun W hb => word_nat _ y i W (HU.out.below hb) (by omega))
      have hi0 : (0 : Int) ≤ i := by omega
      have HBW : Hid (Below w.heap.size w wr) := keepb HB0.out HBE.out
      have hz1 : w.heap.size < wr.heap.size := by omega
      have hz2 : w.heap.size + 1 < wr.heap.size := by omega
      have hbr : Below wr.heap.size wr wr := Below.refl _ _
      generalize x / W64 ^ i % W64 = xi at *
      generalize y / W64 ^ i % W64 = yi at *
      go_wp2_with fail
      go_region_held3 (fun w' => w'.cell? ⟨w.heap.size, 0, none⟩ = some (.slice A n c) ∧ w'.cell? ⟨w.heap.size + 1, 0, none⟩ = some (.slice B m d) ∧ Below wr.heap.size wr w')
        (first
          | (go_keep; done)
          | (go_split_ands; exact s_call (by assumption) (by assumption) (by assumption) hz1 hz2 hbn)
          | (go_split_ands; exact s_drew (by assumption) (by assumption) (by assumption)))
        (first
          | (go_at_call_of 122 (Value.agg #[Value.slice A n c]); go_split_ands; refine (HWX.out _ (keepb HBW.out (by assumption))).mono ?_; rintro e w' ⟨rfl, hbn⟩)
          | (go_at_call_of 122 (Value.agg #[Value.slice B m d]); go_split_ands; refine (HWY.out _ (keepb HBW.out (by assumption))).mono ?_; rintro e w' ⟨rfl, hbn⟩))
      go_split_ands
      have hbw : Below wr.heap.size wr w' := by assumption
      have HBW2 := Lib.hid (keepb HBW.out hbw)
      have HBR2 := Lib.hid (keepb HBE.out hbw)
      by_cases h1 : xi < yi
      · have hc : cmpI x y = -1 := by
          have h2 := HST.out.2.1 h1
          unfold cmpI
          rw [if_neg (by omega), if_pos h2]
        have HC := Lib.hid hc
        have t1 : decide (xi < yi) = true := by simpa using h1
        clear hc h1 hbw
        go_wp2_with fail
        go_ret
        exact ⟨by rw [HC.out]; rfl, HBW2.out⟩
      · by_cases h2 : yi < xi
        · have hc : cmpI x y = 1 := by
            have h3 := HST.out.2.2 h2
            unfold cmpI
            rw [if_neg (by omega), if_neg (by omega)]
          have HC := Lib.hid hc
          have t1 : decide (xi < yi) = false := by simpa using h1
          have t2 : decide (yi < xi) = true := by simpa using h2
          clear hc h1 h2 hbw
          go_wp2_with fail
          go_ret
          exact ⟨by rw [HC.out]; rfl, HBW2.out⟩
        · have heq : x / W64 ^ i = y / W64 ^ i := HST.out.1.2 (by omega)
          have HE := Lib.hid heq
          have t1 : decide (xi < yi) = false := by simpa using h1
          have t2 : decide (yi < xi) = false := by simpa using h2
          clear heq h1 h2 hbw
          go_wp2_with fail
          go_roundw
          case rel => exact ⟨i, by go_num, by omega, HE.out, HBR2.out⟩
          case measure => simp [intOf]
end Go.Proofs.YtjggmdlecdbeeaaGreatDoor
