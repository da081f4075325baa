/- The laws of digits: rows of digits as literals; the fewest; the laws' own functions right, nearer. -/
import Derived.Test.YtnajondbdeclmaaGreatDoorDigitsSideW
namespace Go.Proofs.YtnajondbdeclmaaGreatDoor
open Go.RowKit
attribute [local go_sem] SGives_value SGives_skip SGives_enter CGives_value CGives_skip CGives_enter MGives_value MGives_skip MGives_enter
set_option linter.unusedSimpArgs false
set_option linter.unusedVariables false

theorem valX_rowD (d : List UInt8) (n : Int) : valX (rowD (d, n)) = dval d * 10 ^ (n - d.length + (unitE : Int)).toNat := rfl
theorem farE_big : (100000 : Int) < (farE : Int) := by decide
theorem lit_num {d : List UInt8} {n : Int} (hd : ∀ c ∈ d, isD c = true) (h0 : d ≠ []) (hh : d = [48] ∨ d.head? ≠ some 48) (hl : d.length ≤ 800) (h1 : -(unitE : Int) ≤ n - d.length) (h2 : n ≤ 2000) : NumT (litL d n) (valX (rowD (d, n))) := by
  have hu : unitE = 1075 := rfl
  have hb : bigE = 5400 := rfl
  have hf := farE_big
  obtain ⟨p1, p2⟩ := lit_parse hd h0 hh (n := n) (by omega) (by omega)
  have hlen := lit_len d n (by omega) (by omega)
  have hdv := dval_lt d hd
  refine NumT.mk_strip p1 (by omega) p2 rfl h1 rfl (fun k hk => ⟨dval d, _, rfl, ?_⟩) ?_
  · exact Nat.lt_of_lt_of_le hdv (Nat.pow_le_pow_right (by decide) (by omega))
  · rw [valX_rowD]
    have h3 : dval d * 10 ^ (n - d.length + (unitE : Int)).toNat < 10 ^ d.length * 10 ^ (n - d.length + (unitE : Int)).toNat := Nat.mul_lt_mul_of_pos_right hdv (pow10 _)
    rw [← Nat.pow_add] at h3
    exact Nat.lt_of_lt_of_le h3 (Nat.pow_le_pow_right (by decide) (by omega))
theorem short_num {b : Nat} (hb : b ≤ most) (h0 : 0 < b) : NumT (litL (shortR b).1 (shortR b).2) (shortN b) := by
  obtain ⟨s1, s2, s3, s4, s5⟩ := short_size hb h0
  have e : shortR b = rowN (shortN b) := by unfold shortR; rw [if_neg (by omega)]
  obtain ⟨l1, l2, l3, l4⟩ := row_lead (short_pos h0)
  have hv := (row_val (shortN b)).1
  rw [e] at s2 s4 s5 ⊢
  have := lit_num l1 l2 (.inr l3) (n := (rowN (shortN b)).2) (by omega) (by rw [unitE_eq]; omega) (by omega)
  have h2 : ∀ p : List UInt8 × Int, rowD (p.1, p.2) = rowD p := fun _ => rfl
  rw [h2, hv] at this
  exact this

/-- Is the one number nearer to a size than the other one, where it can be said? -/
def nearB (x y c : Int) : Bool := (x == 0 && y != 0) || (decide (x < 0) && decide (y < 0) && decide (0 < c)) || (decide (0 < x) && decide (0 < y) && decide (c < 0))
theorem near_no {X Y S l p : Nat} (h1 : X ≤ S → X ≤ l) (h2 : S < X → l + p ≤ X) (hl : l ≤ S) (hp : S < l + p) (hY : Y = l ∨ (Y = l + p ∧ l < S)) : nearB (cmpI X S) (cmpI Y S) (cmpI X Y) = false := by
  unfold nearB
  rcases cmpI_tri X S with ⟨a1, a2⟩ | ⟨a1, a2⟩ | ⟨a1, a2⟩ <;> rcases cmpI_tri Y S with ⟨b1, b2⟩ | ⟨b1, b2⟩ | ⟨b1, b2⟩ <;> rcases cmpI_tri X Y with ⟨c1, c2⟩ | ⟨c1, c2⟩ | ⟨c1, c2⟩ <;> rw [a2, b2, c2] <;> first | rfl | (exfalso; omega)
/-- No row of fewer digits rounds to the float; none of as many is nearer. -/
theorem fewest_law {b : Nat} {s : List UInt8} {n : Int} (hb : b ≤ most) (h0 : 0 < b) (hs : ∀ c ∈ s, isD c = true) (hs0 : s ≠ []) (hl : s.length ≤ (shortR b).1.length) (hn : -(unitE : Int) ≤ n - s.length) (hi : insD b (valX (rowD (s, n))) = true) :
    (shortR b).1.length ≤ s.length ∧ nearB (cmpI (valX (rowD (s, n))) (sz b)) (cmpI (shortN b) (sz b)) (cmpI (valX (rowD (s, n))) (shortN b)) = false := by
  obtain ⟨k, v, k1, k2, k3, k4, k5, k6, k7⟩ := short_digits h0
  have hv := valX_rowD s n
  have hsv := dval_lt s hs
  have hsl := List.length_pos_iff.2 hs0
  have hk := short_least h0 hi hv hsv (by omega) k3 k7
  have hd : (shortR b).1.length ≤ k := by
    unfold shortR
    rw [if_neg (by omega)]
    rcases row_digits k5 k4 (short_pos h0) with h6 | h6 <;> omega
  refine ⟨by omega, ?_⟩
  have e : s.length = k := by omega
  rw [e] at hsv
  obtain ⟨m1, m2⟩ := not_between (sz_pos h0) hv hsv k1 k3
  exact near_no m1 m2 (low_le _ _) (high_gt (pow10 _)) k6

set_option maxRecDepth 100000 in
set_option maxHeartbeats 4000000 in
theorem near_walk (n m : Nat) (a c : List UInt8) (x y z : Int) (w : World)
    (hand : bits .andNot .u64 (n : Int) 9223372036854775808 = (m : Int))
    (HA : Hid (∀ W, Calls Tryz.prog 36 #[.string ⟨a.toArray⟩, .int .u64 (m : Int)] W fun e w' => e = .returned (.tuple #[.int .i64 x, .nilIface]) ∧ Below W.heap.size W w'))
    (HB : Hid (∀ W, Calls Tryz.prog 36 #[.string ⟨c.toArray⟩, .int .u64 (m : Int)] W fun e w' => e = .returned (.tuple #[.int .i64 y, .nilIface]) ∧ Below W.heap.size W w'))
    (HC : Hid (∀ W, Calls Tryz.prog 44 #[.string ⟨a.toArray⟩, .string ⟨c.toArray⟩] W fun e w' => e = .returned (.tuple #[.int .i64 z, .nilIface]) ∧ Below W.heap.size W w'))
    (hx : x = -1 ∨ x = 0 ∨ x = 1) (hy : y = -1 ∨ y = 0 ∨ y = 1) (hz : z = -1 ∨ z = 0 ∨ z = 1) (hno : nearB x y z = false) :
    Calls Tryz.prog 43 #[.int .u64 (n : Int), .string ⟨a.toArray⟩, .string ⟨c.toArray⟩] w fun e w' => e = .returned (.bool false) ∧ Below w.heap.size w w' := by
  have HNO := Lib.hid hno
  have HX := Lib.hid hx
  have HY := Lib.hid hy
  have HZ := Lib.hid hz
  clear hno hx hy hz
  go_enter Tryz.func43, Tryz.ntmps43
  go_wp2_with fail
  refine (HA.out _).mono ?_
  rintro e w1 ⟨rfl, hb⟩
  have BB1 := Lib.hid hb
  clear hb
  go_wp2_with fail
  refine (HB.out _).mono ?_
  rintro e w2 ⟨rfl, hb⟩
  have BB2 := Lib.hid (keepb BB1.out hb)
  clear hb
  go_wp2_with fail
  refine (HC.out _).mono ?_
  rintro e w3 ⟨rfl, hb⟩
  have BB3 := Lib.hid (keepb BB2.out hb)
  clear hb HA HB HC
  rcases HX.out with rfl | rfl | rfl
  all_goals
    rcases HY.out with rfl | rfl | rfl
    all_goals
      rcases HZ.out with rfl | rfl | rfl
      all_goals
        first
          | exact absurd HNO.out (by decide)
          | (go_wp2_with fail
             go_ret
             exact ⟨rfl, BB3.out⟩)
/-- A row of digits without noughts at its ends. -/
def rightB (s : List UInt8) : Bool := decide (s ≠ [] ∧ s.head? ≠ some 48 ∧ s.getLast? ≠ some 48)
set_option maxRecDepth 100000 in
set_option maxHeartbeats 2000000 in
theorem right_d (s : List UInt8) (hs : ∀ c ∈ s, isD c = true) (hl : s.length ≤ 100000) (w : World) :
    Calls Tryz.prog 34 #[.string ⟨s.toArray⟩] w fun e w' => e = .returned (.bool (rightB s)) ∧ w = w' := by
  have HD := Lib.hid hs
  have hlI : (s.length : Int) ≤ 100000 := by omega
  clear hs hl
  go_enter Tryz.func34, Tryz.ntmps34
  go_wp2_with fail
  go_loop [3] (fun s3 => ∃ k : Nat, s3 = .int .i64 k ∧ k ≤ s.length) (fun s3 => s.length - (intOf s3).toNat)
  case atStart => exact ⟨0, rfl, Nat.zero_le _⟩
  case round =>
    obtain ⟨k, rfl, hk⟩ := hrel
    by_cases hlt : k < s.length
    · have hb := bget s k hlt
      have hd := HD.out s[k] (List.getElem_mem hlt)
      have hx : 48 ≤ bt s k ∧ bt s k ≤ 57 := by
        have := of_decide_eq_true hd
        rw [← bget s k hlt]
        exact this
      generalize bt s k = x at *
      have t0 : decide ((k : Int) < s.length) = true := by simp; omega
      have t0' : decide (k < s.length) = true := by simp; omega
      have t1 : decide ((x : Int) < 48) = false := by simp; omega
      have t2 : decide ((57 : Int) < x) = false := by simp; omega
      clear hd hx
      go_wp2_with fail
      go_round
      case rel => exact ⟨k + 1, by go_num, by omega⟩
      case measure => simp [intOf]; omega
    · obtain rfl : k = s.length := by omega
      have t0 : decide ((s.length : Int) < s.length) = false := by simp
      have t0' : decide (s.length < s.length) = false := by simp
      clear hlt hk
      by_cases h0 : s = []
      · have HV := Lib.hid (show rightB s = false by rw [h0]; rfl)
        subst h0
        go_wp2_with fail
        go_ret
        exact ⟨by rw [HV.out] <;> rfl, rfl⟩
      · have hpos := List.length_pos_iff.2 h0
        obtain ⟨n1, n2⟩ := sv_ne h0
        have hb0 := bget s 0 hpos
        have hbl := bget s (s.length - 1) (by omega)
        have e0 : s.head? = some 48 ↔ bt s 0 = 48 := by
          rw [List.head?_eq_getElem?]
          exact (bt_eq hpos 48).symm
        have e1 : s.getLast? = some 48 ↔ bt s (s.length - 1) = 48 := by
          rw [List.getLast?_eq_getElem?]
          exact (bt_eq (show s.length - 1 < s.length by omega) 48).symm
        have k1 : IntKind.i64.wrap ((s.length : Int) - 1) = ((s.length - 1 : Nat) : Int) := by rw [IntWalk.i64_in _ (by omega)]; omega
        have HV := Lib.hid (show rightB s = (decide (bt s 0 ≠ 48) && decide (bt s (s.length - 1) ≠ 48)) by
          unfold rightB
          rw [Bool.eq_iff_iff]
          simp only [decide_eq_true_eq, Bool.and_eq_true, ne_eq, e0, e1, h0, not_false_eq_true, true_and])
        have hlast : s.length - 1 < s.length := by omega
        generalize bt s 0 = x at *
        generalize bt s (s.length - 1) = y at *
        clear e0 e1 h0
        by_cases hx : x = 48
        · have HVV := Lib.hid (show rightB s = false by rw [HV.out, hx]; rfl)
          subst hx
          clear hlast k1 hbl
          go_wp2_with fail
          go_ret
          exact ⟨by rw [HVV.out] <;> rfl, rfl⟩
        · have t1 : ((x : Int) != 48) = true := by rw [bne_iff_ne]; omega
          have t2 : ((x : Int) == 48) = false := by rw [beq_eq_false_iff_ne]; omega
          have t3 : (x == 48) = false := by rw [beq_eq_false_iff_ne]; omega
          by_cases hy : y = 48
          · have HVV := Lib.hid (show rightB s = false by rw [HV.out, hy]; simp)
            subst hy
            clear hx
            go_wp2_with fail
            go_ret
            exact ⟨by rw [HVV.out] <;> rfl, rfl⟩
          · have HVV := Lib.hid (show rightB s = true by rw [HV.out, decide_eq_true hx, decide_eq_true hy]; rfl)
            have t4 : ((y : Int) != 48) = true := by rw [bne_iff_ne]; omega
            have t5 : ((y : Int) == 48) = false := by rw [beq_eq_false_iff_ne]; omega
            have t6 : (y == 48) = false := by rw [beq_eq_false_iff_ne]; omega
            clear hx hy
            go_wp2_with fail
            go_ret
            exact ⟨by rw [HVV.out] <;> rfl, rfl⟩
end Go.Proofs.YtnajondbdeclmaaGreatDoor
