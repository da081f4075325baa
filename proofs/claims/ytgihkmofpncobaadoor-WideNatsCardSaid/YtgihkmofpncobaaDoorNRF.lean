/- The document's natural numbers: a bit; the number of 64 bits. -/
import Derived.Test.YtgihkmofpncobaaDoorNRE
namespace Go.Proofs.YtgihkmofpncobaaDoor
open Go.RowKit
set_option linter.unusedSimpArgs false
set_option linter.unusedVariables false

theorem bit16 (x K : Nat) : x / B16 ^ (K / 16) % B16 / 2 ^ (K % 16) % 2 = x / 2 ^ K % 2 := by
  have h3 := Nat.mod_lt K (show 0 < 16 by omega)
  have h2 : ∀ y, y % B16 / 2 ^ (K % 16) % 2 = y / 2 ^ (K % 16) % 2 := fun y => by
    have h4 : B16 = 2 ^ (K % 16) * (2 * 2 ^ (15 - K % 16)) := by
      rw [← Nat.pow_succ', ← Nat.pow_add]; show 2 ^ 16 = _; congr 1; omega
    rw [h4, Nat.mod_mul_right_div_self, Nat.mod_mul_right_mod]
  rw [h2, b16_pow, Nat.div_div_eq_div_mul, ← Nat.pow_add]
  congr 3
  omega
set_option maxRecDepth 4000000 in
set_option maxHeartbeats 4000000 in
theorem rbit_nat (v : Value) (x N : Nat) (k : Int) (w : World) (hv : RatW w v x) (hx : x < B4 ^ N) (hN : N ≤ 10000) (hk : (Lit.int .i64 k).wf = true) :
    Calls Tryd.prog 41 #[v, .int .i64 k] w fun e w' => e = .returned (.bool (bitV x k)) ∧ Below w.heap.size w w' := by
  obtain ⟨A, n, c, rfl, hl⟩ := hv
  have HW := Lib.hid (fun W (h : RatL W A n c x) => rwords_nat _ x N W h.w hx hN)
  have HL0 := Lib.hid (hl.below (below_new w (.cells #[.slice A n c] 31)))
  have hXB := b4_b16 hx
  have HXB := Lib.hid hXB
  have hbd := bounds_i64 hk
  clear hl hx hXB hk
  by_cases h0 : k < 0
  · have hv : bitV x k = false := by unfold bitV; rw [decide_eq_false]; omega
    have t1 : decide (k < 0) = true := decide_eq_true h0
    have HV := Lib.hid hv
    clear hv h0
    go_enter Tryd.func41, Tryd.ntmps41
    go_wp2_with fail
    refine (HW.out _ HL0.out).mono ?_
    rintro e w1 ⟨A1, n1, c1, rfl, hwl, hb⟩
    have HB1 := Lib.hid (keepb (below_new w _) hb)
    clear hwl hb HW HL0
    go_wp2_with fail
    go_ret
    exact ⟨by show Ending.returned (Value.bool false) = _; rw [HV.out], HB1.out⟩
  · obtain ⟨K, rfl⟩ : ∃ K : Nat, k = (K : Int) := ⟨k.toNat, by omega⟩
    have hv : bitV x (K : Int) = decide (x / 2 ^ K % 2 = 1) := by
      unfold bitV
      simp
    rw [← bit16] at hv
    have HV := Lib.hid hv
    clear hv h0
    have hKb : (K : Int) ≤ 9223372036854775807 := by omega
    have e1 : (K : Int) / 16 = ((K / 16 : Nat) : Int) := by omega
    have e2 : Int.tdiv (K : Int) 16 = ((K / 16 : Nat) : Int) := by rw [Int.tdiv_eq_ediv_of_nonneg (by omega)]; omega
    have e3 : (K : Int) % 16 = ((K % 16 : Nat) : Int) := by omega
    have e4 : Int.tmod (K : Int) 16 = ((K % 16 : Nat) : Int) := by rw [Int.tmod_eq_emod_of_nonneg (by omega)]; omega
    have hs : K % 16 < 16 := Nat.mod_lt _ (by decide)
    have hsI : ((K % 16 : Nat) : Int) < 16 := by omega
    have hjI : ((K / 16 : Nat) : Int) ≤ 9223372036854775807 := by omega
    have hK0 : decide ((K : Int) < 0) = false := decide_eq_false (by omega)
    have hdz : x / B16 ^ (K / 16) % B16 < B16 := Nat.mod_lt _ (by decide)
    go_enter Tryd.func41, Tryd.ntmps41
    go_wp2_with fail
    refine (HW.out _ HL0.out).mono ?_
    rintro e w1 ⟨A1, n1, c1, rfl, hwl, hb⟩
    have HB1 := Lib.hid (keepb (below_new w _) hb)
    have hlen := hwl.len HXB.out
    have HWL := Lib.hid hwl
    clear hb HW HL0 hwl
    generalize hj : K / 16 = j at *
    generalize K % 16 = s at *
    clear hj hbd
    rcases Nat.lt_or_ge j n1 with hlt | hge
    · obtain ⟨g, o, rfl, hc⟩ := HWL.out.fig hlt
      have hsh := shr_w (x / B16 ^ j % B16) s
      have t1 : decide ((n1 : Int) ≤ (j : Int)) = false := decide_eq_false (by omega)
      have t1' : decide (n1 ≤ j) = false := decide_eq_false (by omega)
      have hjn : (j : Int) < (n1 : Int) := by omega
      have hql : x / B16 ^ j % B16 / 2 ^ s ≤ 65535 := Nat.le_trans (Nat.div_le_self _ _) (by unfold B16 at *; omega)
      generalize x / B16 ^ j % B16 = f at *
      generalize f / 2 ^ s = q at *
      have e5 : (q : Int) % 2 = ((q % 2 : Nat) : Int) := by omega
      have e6 : Int.tmod (q : Int) 2 = ((q % 2 : Nat) : Int) := by rw [Int.tmod_eq_emod_of_nonneg (by omega)]; omega
      have hr2 : q % 2 < 2 := Nat.mod_lt _ (by decide)
      have HQ := Lib.hid (show (((q % 2 : Nat) : Int) == 1) = decide (q % 2 = 1) by rw [Bool.eq_iff_iff]; simp; omega)
      have hrI : ((q % 2 : Nat) : Int) < 2 := by omega
      generalize q % 2 = r at *
      have hqe := HQ.out
      clear hlt hdz hql hs hr2 hlen
      go_wp2_with fail
      go_ret
      exact ⟨by show Ending.returned (Value.bool (decide (r = 1))) = _; rw [HV.out], HB1.out⟩
    · have hz : x / B16 ^ j = 0 := Nat.div_eq_of_lt (Nat.lt_of_lt_of_le HWL.out.lt (Nat.pow_le_pow_right (by decide) hge))
      have HV2 : Hid (bitV x (K : Int) = false) := Lib.hid (by rw [HV.out, hz]; simp)
      have t1 : decide ((n1 : Int) ≤ (j : Int)) = true := decide_eq_true (by omega)
      have t1' : decide (n1 ≤ j) = true := decide_eq_true hge
      clear hz hdz hge hlen
      go_wp2_with fail
      go_ret
      exact ⟨by show Ending.returned (Value.bool false) = _; rw [HV2.out], HB1.out⟩
end Go.Proofs.YtgihkmofpncobaaDoor
