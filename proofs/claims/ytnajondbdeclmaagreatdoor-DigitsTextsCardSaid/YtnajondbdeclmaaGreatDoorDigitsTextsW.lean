/- The walk of DigitsTexts. -/
import Derived.Test.YtnajondbdeclmaaGreatDoorFiveT
import Derived.Test.YtnajondbdeclmaaGreatDoorDigitsBackW
import Derived.Test.YtnajondbdeclmaaGreatDoorDigitsSideW
namespace Go.Proofs.YtnajondbdeclmaaGreatDoor
open Go.RowKit
set_option linter.unusedSimpArgs false
set_option linter.unusedVariables false

/-- Is a float a whole number below two to the power 53? By its parts. -/
theorem whole_parts {b j : Nat} (hj : fltK b = -(j : Int)) : (isWhole b = true ↔ fltM b % 2 ^ j = 0) ∧ fltM b / 2 ^ j = wholeF b := by
  obtain ⟨u, hu⟩ : ∃ u, u = 1074 := ⟨_, rfl⟩
  obtain ⟨h1, _, h3, _⟩ := flt_form b u hu
  have hlt : b < 4845873199050653696 := by
    unfold fltK at hj
    split at hj <;> omega
  have e : 2 ^ u = 2 ^ j * 2 ^ (fltK b + (u : Nat)).toNat := by
    rw [← Nat.pow_add]
    congr 1
    omega
  have hp : 0 < 2 ^ (fltK b + (u : Nat)).toNat := Nat.pow_pos (by decide)
  constructor
  · unfold isWhole
    rw [← hu, decide_eq_true_eq, ← h1, e, Nat.mul_mod_mul_right]
    generalize 2 ^ (fltK b + (u : Nat)).toNat = P at *
    constructor
    · rintro ⟨_, h⟩
      rcases Nat.mul_eq_zero.1 h with h2 | h2
      · exact h2
      · omega
    · intro h
      rw [h, Nat.zero_mul]
      exact ⟨hlt, rfl⟩
  · unfold wholeF
    rw [← hu, ← h1, e, Nat.mul_div_mul_right _ _ hp]
theorem whole_not {b : Nat} (h : 0 < fltK b) : isWhole b = false := by
  unfold isWhole
  refine decide_eq_false ?_
  rintro ⟨h1, _⟩
  unfold fltK at h
  split at h <;> omega
theorem rtext_fin (n b : Nat) (w : World) (hn : n < 18446744073709551616) (hb : n % 9223372036854775808 = b) (hf : b ≤ most) :
    Calls Tryz.prog 19 #[.int .u64 (n : Int)] w fun e w' => e = .returned (.tuple #[.string ⟨(textS n).toArray⟩, .int .i64 0]) ∧ Below w.heap.size w w' := by
  by_cases h0 : b = 0
  · have hP := fun W => rparts_fin n b W hn hb hf
    have e1 : fltK b = -1074 := by rw [h0]; rfl
    rw [e1] at hP
    rw [digitsBack.whole_zero (by rw [hb, h0])]
    exact rtext_zero n (fltM b) w (Lib.hid hP) (Lib.hid (fun W => rshort_zero n W hn (by rw [hb, h0])))
  · have hb0 : 0 < b := by omega
    obtain ⟨hm1, hk1, hk2⟩ := flt_bounds hf
    have two : (2 : Nat) ^ 53 = 9007199254740992 := rfl
    rw [two] at hm1
    have hm0 : 0 < fltM b := by
      have := (flt_form b 1074 rfl).2.2.2
      omega
    have HP := Lib.hid (fun W => rparts_fin n b W hn hb hf)
    obtain ⟨z, hz⟩ : ∃ z, n / 9223372036854775808 = z := ⟨_, rfl⟩
    have HZ : Hid ((z = 1 ∧ decide (9223372036854775808 ≤ n) = true) ∨ (z = 0 ∧ decide (9223372036854775808 ≤ n) = false)) := Lib.hid (by
      by_cases h : 9223372036854775808 ≤ n
      · exact .inl ⟨by omega, decide_eq_true h⟩
      · exact .inr ⟨by omega, decide_eq_false h⟩)
    cases hw : isWhole b with
    | true =>
      have hK : fltK b ≤ 0 := by
        rcases Int.lt_or_le 0 (fltK b) with h | h
        · rw [whole_not h] at hw; cases hw
        · exact h
      obtain ⟨j, hj⟩ : ∃ j : Nat, fltK b = -(j : Int) := ⟨(-fltK b).toNat, by omega⟩
      obtain ⟨w1, w2⟩ := whole_parts hj
      have hmod := w1.1 hw
      have hj52 : j ≤ 52 := by
        rcases Nat.lt_or_ge j 53 with h | h
        · omega
        · exfalso
          have h5 : 2 ^ 53 ≤ 2 ^ j := Nat.pow_le_pow_right (by decide) h
          rw [two] at h5
          rw [Nat.mod_eq_of_lt (by omega)] at hmod
          omega
      have hv : 0 < wholeF b := by
        rw [← w2]
        rcases Nat.eq_zero_or_pos (fltM b / 2 ^ j) with h | h
        · have := Nat.div_add_mod (fltM b) (2 ^ j)
          rw [h, hmod] at this
          omega
        · exact h
      have ht := rtext_whole n (fltM b) z j (wholeF b) (fltK b) (decide (9223372036854775808 ≤ n)) w HP hj hj52 hmod w2 hm0 (by omega) (by omega) (by omega) HZ
      have e : textS n = gS (decide (9223372036854775808 ≤ n)) ++ Lib.decDigits (wholeF b) := by
        unfold textS
        rw [hb, if_pos hw]
        unfold wholeI
        rw [hb]
        generalize wholeF b = v at *
        by_cases h : n < 9223372036854775808
        · rw [if_pos h, decide_eq_false (by omega)]
          unfold Lib.itoa
          rw [if_neg (by omega)]
          rfl
        · rw [if_neg h, decide_eq_true (by omega)]
          unfold Lib.itoa
          rw [if_pos (by omega), Int.natAbs_neg, Int.natAbs_natCast]
          rfl
      rw [e]
      exact ht
    | false =>
      obtain ⟨s1, s2, s3, s4, s5⟩ := short_size hf hb0
      have hr : shortR b = rowN (shortN b) := by unfold shortR; rw [if_neg h0]
      have hld := row_lead (short_pos hb0)
      rw [← hr] at hld
      have hpos := List.length_pos_iff.2 hld.2.1
      have HS := Lib.hid (fun W => rshort_fin n b W hn hb hf h0)
      have e : textS n = textR (decide (9223372036854775808 ≤ n)) (shortR b).1 (shortR b).2 := by unfold textS; rw [hb, if_neg (by rw [hw]; decide)]
      rw [e]
      clear e hr
      generalize shortR b = r at *
      refine rtext_walk n (fltM b) z (fltK b) _ r.1 r.2 w HP HS (Lib.hid ?_) (by omega) (by omega) (by omega) HZ ?_ (by omega) (by omega) (by omega) (by omega) hk1 hk2
      · rcases Int.lt_or_le 0 (fltK b) with h | h
        · exact .inl h
        · rcases Int.lt_or_le (-53) (fltK b) with h2 | h2
          · obtain ⟨j, hj⟩ : ∃ j : Nat, fltK b = -(j : Int) := ⟨(-fltK b).toNat, by omega⟩
            refine .inr (.inr ⟨j, hj, by omega, fun h3 => ?_⟩)
            rw [(whole_parts hj).1.2 h3] at hw
            cases hw
          · exact .inr (.inl h2)
      · intro h
        apply hld.2.2.1
        rw [h]
        rfl
end Go.Proofs.YtnajondbdeclmaaGreatDoor
namespace Go.Proofs.YtnajondbdeclmaaGreatDoor.digitsTexts
open Go.RowKit
set_option linter.unusedSimpArgs false
set_option linter.unusedVariables false

set_option maxRecDepth 100000 in
set_option maxHeartbeats 4000000 in
theorem texts_same (n : Nat) (c : Int) (ev : Value) (d : List UInt8) (w : World)
    (cf : ∀ W, (callFunc 18 #[.int .u64 (n : Int)]).run Tryz.prog W = .ok (.value (.float .f64 n)) W)
    (HP : Hid (∀ W, Below w.heap.size w W → Calls Tryz.prog 17 #[.float .f64 n] W fun e w' => e = .returned (.tuple #[.string ⟨d.toArray⟩, ev]) ∧ Below W.heap.size W w'))
    (HR : Hid (∀ W, Calls Tryz.prog 19 #[.int .u64 (n : Int)] W fun e w' => e = .returned (.tuple #[.string ⟨d.toArray⟩, .int .i64 c]) ∧ Below W.heap.size W w'))
    (HN : Hid (∀ W, Calls Tryz.prog 15 #[ev] W fun e w' => e = .returned (.int .i64 c) ∧ W = w'))
    (HW : Hid (∀ W, Below w.heap.size w W → Calls Tryz.prog 16 #[] W fun e w' => e = .returned (.bool true) ∧ Below W.heap.size W w')) :
    Calls Tryz.prog 4 #[.int .u64 (n : Int)] w fun e w' => e = .returned (.bool true) ∧ Below w.heap.size w w' := by
  go_enter Tryz.func4, Tryz.ntmps4
  go_wp2_with fail
  refine (HP.out _ (Below.refl _ _)).mono ?_
  rintro e w1 ⟨rfl, hb⟩
  have BB := Lib.hid hb
  clear hb
  go_wp2_with fail
  refine (HR.out _).mono ?_
  rintro e w2 ⟨rfl, hb⟩
  have BB := Lib.hid (keepb BB.out hb)
  clear hb
  go_wp2_with fail
  refine (HN.out _).mono ?_
  rintro e w3 ⟨rfl, rfl⟩
  go_wp2_with fail
  refine (HW.out _ BB.out).mono ?_
  rintro e w4 ⟨rfl, hb⟩
  have BB := Lib.hid (keepb BB.out hb)
  clear hb
  go_wp2_with fail
  go_ret
  exact ⟨rfl, BB.out⟩
theorem walk (a0 : Int) (w : World) (w0 : (Lit.int .u64 a0).wf = true) (ht : Tab w) :
    Calls Tryz.prog 4 #[.int .u64 a0] w fun e w' => e = .returned (.bool true) ∧ Below w.heap.size w w' := by
  obtain ⟨n, rfl, hn⟩ := word_wf w0
  clear w0
  have hW := Lib.hid (fun W (h : Below w.heap.size w W) => works_yes W (ht.below h))
  have hT := fun W (h : Below w.heap.size w W) => text_any n W hn (ht.below h)
  by_cases h : most < n % 9223372036854775808
  · unfold textV at hT
    rw [if_pos h] at hT
    obtain ⟨r, hr⟩ : ∃ r, n % 4503599627370496 = r := ⟨_, rfl⟩
    obtain ⟨z, hz⟩ : ∃ z, n / 4503599627370496 = z := ⟨_, rfl⟩
    have hq : z % 2048 = 2047 := by unfold most at h; omega
    have hP := fun W => (rparts_at n z 2047 r W hn hz hq hr).2 (by decide)
    exact texts_same n _ _ _ w (call_from n) (Lib.hid hT) (Lib.hid (fun W => rtext_inf n _ W (Lib.hid hP) (Lib.hid (fun W => rshort_inf n W hn h)))) (Lib.hid (fun W => number5 50 W rfl)) hW
  · rw [textV_fin (by omega)] at hT
    have hR := fun W => rtext_fin n _ W hn rfl (by omega)
    generalize textS n = s at *
    exact texts_same n _ _ _ w (call_from n) (Lib.hid hT) (Lib.hid hR) (Lib.hid (fun W => number5_nil W)) hW
end Go.Proofs.YtnajondbdeclmaaGreatDoor.digitsTexts
