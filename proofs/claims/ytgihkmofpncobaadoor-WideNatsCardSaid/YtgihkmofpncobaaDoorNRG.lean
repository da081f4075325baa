/- The document's natural numbers: the number of 64 bits. -/
import Derived.Test.YtgihkmofpncobaaDoorNRF
namespace Go.Proofs.YtgihkmofpncobaaDoor
open Go.RowKit
set_option linter.unusedSimpArgs false
set_option linter.unusedVariables false

theorem b16_four : B16 ^ 4 = W64 := by decide
set_option maxRecDepth 4000000 in
set_option maxHeartbeats 4000000 in
theorem rword_nat (v : Value) (x N : Nat) (w : World) (hv : RatW w v x) (hx : x < B4 ^ N) (hN : N ≤ 10000) :
    Calls Tryd.prog 43 #[v] w fun e w' => e = .returned (wordV x) ∧ Below w.heap.size w w' := by
  obtain ⟨A, n, c, rfl, hl⟩ := hv
  have HW := Lib.hid (fun W (h : RatL W A n c x) => rwords_nat _ x N W h.w hx hN)
  have HL0 := Lib.hid (hl.below (below_new w (.cells #[.slice A n c] 31)))
  have hXB := b4_b16 hx
  have HXB := Lib.hid hXB
  clear hl hx hXB
  go_enter Tryd.func43, Tryd.ntmps43
  go_wp2_with fail
  refine (HW.out _ HL0.out).mono ?_
  rintro e w1 ⟨A1, n1, c1, rfl, hwl, hb⟩
  have HB1 := Lib.hid (keepb (below_new w _) hb)
  have HWL := Lib.hid hwl
  have hlen : n1 ≤ 10000 := Nat.le_trans (hwl.len HXB.out) hN
  clear hb HW HL0 hwl HXB
  rcases Nat.lt_or_ge 4 n1 with h4 | h4
  · have HV : Hid (wordV x = .tuple #[wv 0, .bool false]) := Lib.hid (by
      unfold wordV
      have h1 := HWL.out.ge (q := n1 - 1) (by omega)
      have h2 : B16 ^ 4 ≤ B16 ^ (n1 - 1) := Nat.pow_le_pow_right (by decide) (by omega)
      rw [b16_four] at h2
      rw [if_neg (by omega)])
    have t1 : decide ((4 : Int) < (n1 : Int)) = true := decide_eq_true (by omega)
    have t1' : decide (4 < n1) = true := decide_eq_true h4
    clear h4
    go_wp2_with fail
    exact bodyPost_ret (v := .tuple #[wv 0, .bool false]) (by simp [results, Tryd.results43, go_sem]) rfl ⟨by rw [HV.out], HB1.out⟩
  · have hxw : x < W64 := by
      have h1 := HWL.out.lt
      have h2 : B16 ^ n1 ≤ B16 ^ 4 := Nat.pow_le_pow_right (by decide) h4
      rw [b16_four] at h2
      omega
    have HV : Hid (wordV x = .tuple #[wv x, .bool true]) := Lib.hid (by unfold wordV; rw [if_pos hxw])
    have HXW := Lib.hid hxw
    have t1 : decide ((4 : Int) < (n1 : Int)) = false := decide_eq_false (by omega)
    have t1' : decide (4 < n1) = false := decide_eq_false (by omega)
    have hnI : (n1 : Int) ≤ 4 := by omega
    clear h4 hxw hlen
    go_wp2_with fail
    go_loop [5, 6] (fun s5 s6 => ∃ j : Nat, s5 = wv (x / B16 ^ j) ∧ s6 = .int .i64 ((j : Int) - 1) ∧ j ≤ n1) (fun _ s6 => (intOf s6 + 1).toNat)
    case atStart => exact ⟨n1, by rw [Nat.div_eq_of_lt HWL.out.lt]; rfl, by first | rfl | (congr 1; omega), Nat.le_refl _⟩
    case round =>
      obtain ⟨j, rfl, rfl, hj⟩ := hrel
      cases j with
      | zero =>
        rw [Nat.pow_zero, Nat.div_one]
        have e0 : ((0 : Nat) : Int) - 1 = -1 := rfl
        rw [e0]
        go_wp2_with fail
        exact bodyPost_ret (v := .tuple #[wv x, .bool true]) (by simp [results, Tryd.results43, go_sem]) rfl ⟨by rw [HV.out], HB1.out⟩
      | succ i =>
        obtain ⟨g, o, rfl, hc⟩ := HWL.out.fig (j := i) (by omega)
        have hst : x / B16 ^ (i + 1) * 65536 + x / B16 ^ i % B16 = x / B16 ^ i := by
          rw [Nat.pow_succ, ← Nat.div_div_eq_div_mul]
          have := Nat.div_add_mod (x / B16 ^ i) B16
          rw [Nat.mul_comm] at this
          exact this
        have hle : x / B16 ^ i ≤ x := Nat.div_le_self _ _
        have hxw := HXW.out
        have HST := Lib.hid hst
        obtain ⟨m, hm⟩ : ∃ m, x / B16 ^ (i + 1) * 65536 = m := ⟨_, rfl⟩
        rw [hm] at hst
        have hf : x / B16 ^ i % B16 < 65536 := Nat.mod_lt _ (by decide)
        generalize x / B16 ^ (i + 1) = a at *
        generalize x / B16 ^ i % B16 = f at *
        generalize hX : x / B16 ^ i = X at *
        have e1 : (a : Int) * 65536 = (m : Int) := by omega
        have e2 : (m : Int) + (f : Int) = (X : Int) := by omega
        have hXI : (X : Int) ≤ 18446744073709551615 := by unfold W64 at hxw; omega
        have hmI : (m : Int) ≤ 18446744073709551615 := by unfold W64 at hxw; omega
        have hfI : (f : Int) < 65536 := by omega
        have ei : (((i + 1 : Nat) : Int) - 1) = (i : Int) := by omega
        have hiI : (i : Int) < (n1 : Int) := by omega
        have HJ := Lib.hid (show i ≤ n1 by omega)
        rw [ei]
        have HX := Lib.hid hX
        clear hst hle hxw hm hf ei hX hj
        go_wp2_with fail
        go_round
        case rel => exact ⟨i, by rw [HX.out], rfl, HJ.out⟩
        case measure => simp [intOf]
end Go.Proofs.YtgihkmofpncobaaDoor
