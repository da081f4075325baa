/- The document's natural numbers: which are over. -/
import Derived.Test.YtgihkmofpncobaaDoorNRG
namespace Go.Proofs.YtgihkmofpncobaaDoor
open Go.RowKit
set_option linter.unusedSimpArgs false
set_option linter.unusedVariables false

theorem pow_lo (a b : Nat) (ha : a = 616) (hb : b = 8192) : Nat.ble (B4 ^ a) (2 ^ b) = true := by subst ha hb; decide +kernel
theorem pow_hi (a b : Nat) (ha : a = 617) (hb : b = 8192) : Nat.ble (2 ^ b) (B4 ^ a) = true := by subst ha hb; decide +kernel
/-- A number has more than 8192 bits. -/
def overB (x M : Nat) : Bool := decide (2 ^ M ≤ x)
theorem over_lo {x n M : Nat} (hM : M = 8192) (hx : x < B4 ^ n) (hn : n < 617) : overB x M = false := by
  obtain ⟨a, ha⟩ : ∃ a, a = 616 := ⟨_, rfl⟩
  have h1 := Nat.le_of_ble_eq_true (pow_lo a M ha hM)
  have h2 : B4 ^ n ≤ B4 ^ a := Nat.pow_le_pow_right (by decide) (by omega)
  exact decide_eq_false (Nat.not_le.2 (Nat.lt_of_lt_of_le hx (Nat.le_trans h2 h1)))
theorem over_hi {x n M : Nat} (hM : M = 8192) (hx : B4 ^ n ≤ x) (hn : 617 ≤ n) : overB x M = true := by
  obtain ⟨a, ha⟩ : ∃ a, a = 617 := ⟨_, rfl⟩
  have h1 := Nat.le_of_ble_eq_true (pow_hi a M ha hM)
  have h2 : B4 ^ a ≤ B4 ^ n := Nat.pow_le_pow_right (by decide) (by omega)
  exact decide_eq_true (Nat.le_trans h1 (Nat.le_trans h2 hx))
theorem RatL.ge {w : World} {A : Option Addr} {n c x q : Nat} (h : RatL w A n c x) (hq : q + 1 = n) : B4 ^ q ≤ x := by obtain ⟨l, h1, rfl, _⟩ := h; exact h1.ge q hq
theorem cmpI_over (x M : Nat) : decide (0 ≤ cmpI x (2 ^ M)) = overB x M := by
  unfold overB cmpI
  generalize 2 ^ M = P
  by_cases h : x = P
  · rw [if_pos h]; simp; omega
  · rw [if_neg h]
    by_cases h2 : x < P
    · rw [if_pos h2]; simp; omega
    · rw [if_neg h2]; simp; omega
theorem b4_up {x N M : Nat} (hx : x < B4 ^ N) (h : N ≤ M) : x < B4 ^ M := Nat.lt_of_lt_of_le hx (Nat.pow_le_pow_right (by decide) h)
set_option maxRecDepth 4000000 in
set_option maxHeartbeats 4000000 in
theorem rover_nat (v : Value) (x N M Z : Nat) (w : World) (hv : RatW w v x) (hx : x < B4 ^ N) (hN : N ≤ 10000) (hM : M = 8192) (hZ : Z = 1000000) :
    Calls Tryd.prog 24 #[v] w fun e w' => e = .returned (.bool (overB x M)) ∧ Below w.heap.size w w' := by
  obtain ⟨A, n, c, rfl, hl⟩ := hv
  have hn : n ≤ N := hl.len hx
  have hnI : (n : Int) ≤ 10000 := by omega
  have HLW := Lib.hid hl
  have HX := Lib.hid hx
  clear hx hl
  rcases Nat.lt_or_ge n 617 with h1 | h1
  · have HV : Hid (overB x M = false) := Lib.hid (over_lo hM HLW.out.lt h1)
    have t1 : decide ((n : Int) < 617) = true := decide_eq_true (by omega)
    have t1' : decide (n < 617) = true := decide_eq_true h1
    clear hn hN h1
    go_enter Tryd.func24, Tryd.ntmps24
    go_wp2_with fail
    exact bodyPost_ret (v := .bool false) (by simp [results, Tryd.results24, go_sem]) rfl ⟨by rw [HV.out], by go_grown⟩
  · have t1 : decide ((n : Int) < 617) = false := decide_eq_false (by omega)
    have t1' : decide (n < 617) = false := decide_eq_false (by omega)
    rcases Nat.lt_or_ge 617 n with h2 | h2
    · have HV : Hid (overB x M = true) := Lib.hid (over_hi hM (HLW.out.ge (q := n - 1) (by omega)) (by omega))
      have t2 : decide ((617 : Int) < (n : Int)) = true := decide_eq_true (by omega)
      have t2' : decide (617 < n) = true := decide_eq_true h2
      clear hn hN h1 h2
      go_enter Tryd.func24, Tryd.ntmps24
      go_wp2_with fail
      exact bodyPost_ret (v := .bool true) (by simp [results, Tryd.results24, go_sem]) rfl ⟨by rw [HV.out], by go_grown⟩
    · have t2 : decide ((617 : Int) < (n : Int)) = false := decide_eq_false (by omega)
      have t2' : decide (617 < n) = false := decide_eq_false (by omega)
      have hcv := cmpI_over x M
      have HCV := Lib.hid hcv
      have HTW := Lib.hid (fun W => rtwo_nat M W (by omega))
      rw [hM] at HTW
      rw [show (((8192 : Nat) : Int)) = 8192 from rfl, ← hM] at HTW
      have hx1 : x < B4 ^ Z := b4_up HX.out (by omega)
      have hx2 : 2 ^ M < B4 ^ Z := two_lt (N := 4096) (by omega) (by omega) (by omega)
      have HAG := Lib.hid (fun v W (h : RatW W v (2 ^ M)) (h2 : RatL W A n c x) => ragainst_nat _ v x (2 ^ M) W h2.w h (by rw [← hZ]; exact hx1) (by rw [← hZ]; exact hx2))
      generalize cmpI x (2 ^ M) = cm at *
      generalize 2 ^ M = P at *
      have HL0 := Lib.hid (HLW.out.below (below_new w (.cells #[.slice A n c] 31)))
      have HK0 := Lib.hid (Blk.new w 31 #[.slice A n c])
      have HBb := Lib.hid (below_new w (.cells #[.slice A n c] 31))
      clear hn hN h1 h2 hx1 hx2 hcv
      go_enter Tryd.func24, Tryd.ntmps24
      go_upto_region 5 with fail
      generalize w.alloc (.cells #[.slice A n c] 31) = W0 at *
      have c0 := HK0.out.cell 0
      simp at c0
      go_region_with (first
        | (go_at_call 56; refine (HTW.out _).mono ?_; rintro e wa ⟨A2, n2, c2, rfl, hl2, hb2⟩; have HL2 := Lib.hid hl2; have HWA := Lib.hid (keepb (below_drewN (Below.refl _ _) 1) hb2); have c1 := (HK0.out.below HWA.out HK0.out.lt).cell 0; simp at c1; clear hl2 hb2)
        | (go_at_call 26; refine (HAG.out _ _ HL2.out.w (HL0.out.below HWA.out)).mono ?_; rintro e wb ⟨rfl, hb3⟩; have HWB := Lib.hid (keepb HWA.out hb3); clear hb3))
      all_goals
        have hcc := HCV.out
        go_wp2_with fail
        exact bodyPost_ret (v := .bool (decide (0 ≤ cm))) (by simp [results, Tryd.results24, go_sem]) rfl ⟨by rw [HCV.out], keepb HBb.out HWB.out⟩
end Go.Proofs.YtgihkmofpncobaaDoor
