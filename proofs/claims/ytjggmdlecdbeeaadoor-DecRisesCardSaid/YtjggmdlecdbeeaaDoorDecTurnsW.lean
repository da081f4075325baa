/- The walk of DecTurns. -/
import Derived.Test.YtjggmdlecdbeeaaDoorDecN
import Derived.Test.YtjggmdlecdbeeaaDoorDecS
import Derived.Deep.CutBlock
namespace Go.Proofs.YtjggmdlecdbeeaaDoor.decTurns
open Go.RowKit
set_option linter.unusedSimpArgs false
set_option linter.unusedVariables false

theorem ext_tail (s : List UInt8) : (⟨s.toArray⟩ : ByteArray).extract 1 s.length = ⟨s.tail.toArray⟩ := by
  rw [ext_cut]
  unfold cutL
  rw [List.drop_one, List.take_of_length_le (by simp)]
set_option maxRecDepth 100000 in
theorem turned_any (s : List UInt8) (w : World) (hs : s.length ≤ 140737488351232) :
    Calls Tryd.prog 23 #[sv s] w fun e w' => e = .returned (sv (turnL s)) ∧ w' = w := by
  have HP := Lib.hid (fun W => Tryd.strings_HasPrefix ⟨s.toArray⟩ ⟨#[45]⟩ W)
  simp only [List.toList_toArray] at HP
  by_cases h0 : s[0]? = some 45
  · have HL := Lib.hid (show turnL s = s.tail by unfold turnL; rw [if_pos h0])
    have hp : Lib.hasPrefix s [45] = true := by
      cases s with
      | nil => cases h0
      | cons c r =>
        have hc : c = 45 := by simpa using h0
        subst hc
        simp [Lib.hasPrefix]
    have hl : 1 ≤ s.length := by
      cases s with
      | nil => cases h0
      | cons c r => simp
    have hlI : (1 : Int) ≤ (s.length : Int) := by omega
    have hx := ext_tail s
    have hp' : Lib.hasPrefix s #[45].toList = true := hp
    rw [hp'] at HP
    clear h0 hp hp' hs
    unfold sv
    go_enter Tryd.func23, Tryd.ntmps23
    go_wp2_with fail
    refine (HP.out _).mono ?_
    rintro e w1 ⟨rfl, rfl⟩
    go_wp2_with fail
    go_ret
    exact ⟨by rw [HL.out] <;> rfl, rfl⟩
  · have HL := Lib.hid (show turnL s = 45 :: s by unfold turnL; rw [if_neg h0])
    have hp : Lib.hasPrefix s [45] = false := by
      cases s with
      | nil => rfl
      | cons c r =>
        have hc : c ≠ 45 := by simpa using h0
        show ((45 : UInt8) == c && ([] : List UInt8).isPrefixOf r) = false
        rw [beq_eq_false_iff_ne.2 (Ne.symm hc)]; rfl
    have hcat : (⟨#[45]⟩ : ByteArray) ++ ⟨s.toArray⟩ = ⟨(45 :: s).toArray⟩ := sv_cat [45] s
    have hlI : (s.length : Int) ≤ 140737488351232 := by omega
    have hp' : Lib.hasPrefix s #[45].toList = false := hp
    rw [hp'] at HP
    clear h0 hp hp' hs
    unfold sv
    go_enter Tryd.func23, Tryd.ntmps23
    go_wp2_with fail
    refine (HP.out _).mono ?_
    rintro e w1 ⟨rfl, rfl⟩
    go_wp2_with fail
    go_ret
    exact ⟨by rw [HL.out] <;> rfl, rfl⟩

theorem xor_top (b : Nat) (hb : b < 9223372036854775808) : bits .xor .u64 (b : Int) ((b + 9223372036854775808 : Nat) : Int) = 9223372036854775808 ∧ bits .xor .u64 ((b + 9223372036854775808 : Nat) : Int) (b : Int) = 9223372036854775808 := by
  have h1 : (BitVec.ofInt 64 (b : Int)).toNat = b := by
    rw [BitVec.ofInt_natCast, BitVec.toNat_ofNat]; exact Nat.mod_eq_of_lt (by omega)
  have h2 : (BitVec.ofInt 64 ((b + 9223372036854775808 : Nat) : Int)).toNat = b + 9223372036854775808 := by
    rw [BitVec.ofInt_natCast, BitVec.toNat_ofNat]; exact Nat.mod_eq_of_lt (by omega)
  have h3 : b + 9223372036854775808 = 9223372036854775808 ^^^ b := by
    apply Nat.eq_of_testBit_eq
    intro i
    rw [Nat.testBit_xor, show (9223372036854775808 : Nat) = 2 ^ 63 from rfl, Nat.add_comm, Nat.testBit_two_pow]
    rcases Nat.lt_trichotomy i 63 with h | h | h
    · rw [Nat.testBit_two_pow_add_gt h]; simp [Nat.ne_of_gt h]
    · subst h; rw [Nat.testBit_two_pow_add_eq]; simp
    · have e1 : b.testBit i = false := Nat.testBit_lt_two_pow (Nat.lt_of_lt_of_le hb (show 2 ^ 63 ≤ 2 ^ i from Nat.pow_le_pow_right (by decide) (by omega)))
      have e2 : (2 ^ 63 + b).testBit i = false := Nat.testBit_lt_two_pow (Nat.lt_of_lt_of_le (show 2 ^ 63 + b < 2 ^ 64 by omega) (show 2 ^ 64 ≤ 2 ^ i from Nat.pow_le_pow_right (by decide) (by omega)))
      rw [e1, e2]; simp [Nat.ne_of_lt h]
  constructor
  · show IntKind.u64.wrap ((BitVec.ofInt 64 (b : Int) ^^^ BitVec.ofInt 64 ((b + 9223372036854775808 : Nat) : Int)).toNat : Int) = _
    rw [BitVec.toNat_xor, h1, h2, h3, Nat.xor_comm, Nat.xor_assoc, Nat.xor_self, Nat.xor_zero]; decide
  · show IntKind.u64.wrap ((BitVec.ofInt 64 ((b + 9223372036854775808 : Nat) : Int) ^^^ BitVec.ofInt 64 (b : Int)).toNat : Int) = _
    rw [BitVec.toNat_xor, h1, h2, h3, Nat.xor_assoc, Nat.xor_self, Nat.xor_zero]; decide
/-- The way that a number comes to. -/
theorem way_num (a : Int) : ∃ U r : Nat, IntKind.u64.wrap a = (U : Int) ∧ (U : Int) % 5 = (r : Int) ∧ Int.tmod (U : Int) 5 = (r : Int) ∧ r < 5 := by
  have h : IntKind.u64.wrap a = a % 18446744073709551616 := IntKind.wrap_u64 a
  refine ⟨(a % 18446744073709551616).toNat, (a % 18446744073709551616).toNat % 5, ?_, ?_, ?_, Nat.mod_lt _ (by decide)⟩
  · rw [h]; omega
  · omega
  · rw [Int.tmod_eq_emod_of_nonneg (by omega)]; omega

set_option maxRecDepth 100000 in
set_option maxHeartbeats 8000000 in
theorem walk (a0 : ByteArray) (a1 : Int) (w : World) (w0 : a0.size ≤ maxLen) (s0 : a0.size ≤ 140737488351232) (w1 : (Lit.int .i64 a1).wf = true) :
    Calls Tryd.prog 7 #[.string a0, .int .i64 a1] w fun e w' => e = .returned (.bool true) ∧ Below w.heap.size w w' := by
  obtain ⟨s, rfl⟩ := ba_list a0
  rw [sv_len] at s0
  clear w0 w1
  have HLS := Lib.hid (fun W => literal_any s W (by omega))
  have la := litOf_len s0 (by decide)
  have qa := litOf_ok s
  generalize litOf s = a at *
  have hb := turnL_len a
  obtain ⟨qb, hfb⟩ := turnL_ok qa
  obtain ⟨U, r, hU, hm1, hm2, hr⟩ := way_num a1
  obtain ⟨way, hway⟩ : ∃ way : Int, 1 + (r : Int) = way := ⟨_, rfl⟩
  have hwr : 1 ≤ way ∧ way ≤ 5 := by omega
  have hor : 1 ≤ otherW way ∧ otherW way ≤ 5 := by unfold otherW; split <;> (try split) <;> omega
  have hlaw := turn_round (bareP a) way (bareP_bare a) hwr
  rw [← hfb] at hlaw
  have HA := Lib.hid (fun W => round_ok a way W (by omega) hwr qa)
  have HB := Lib.hid (fun W => round_ok (turnL a) (otherW way) W (by omega) hor qb)
  have HT := Lib.hid (fun W => turned_any a W (by omega))
  generalize turnL a = b at *
  generalize roundP (bareP a) way = ra at *
  generalize roundP (bareP b) (otherW way) = rb at *
  have HLAW := Lib.hid hlaw
  have hrI : (r : Int) < 5 := by omega
  have hr0 : (0 : Int) ≤ (r : Int) := by omega
  have kr : IntKind.i64.wrap (r : Int) = (r : Int) := IntWalk.i64_in _ (by omega)
  have HOW := Lib.hid (show otherW way = if way = 4 then 5 else if way = 5 then 4 else way from rfl)
  clear hlaw hfb qa qb la hb hwr hor s0 hr
  generalize otherW way = ow at *
  unfold sv at *
  go_enter Tryd.func7, Tryd.ntmps7
  go_wp2_with fail
  refine (HLS.out _).mono ?_
  rintro e w1 ⟨rfl, hb⟩
  have HB1 := Lib.hid hb
  clear hb
  go_upto_block 0 with fail
  clear hU hm1 hm2 hway hrI hr0 kr
  go_cut [7] from 21 to 25 (fun s7 wy => s7 = .int .i64 ow ∧ wy = w1)
  case first =>
    by_cases h4 : way = 4
    · subst h4
      have HO := Lib.hid (show ow = 5 by rw [HOW.out, if_pos rfl])
      go_wp2_with fail
      go_meet
      exact ⟨by rw [HO.out], rfl⟩
    · have t4 : (way == 4) = false := by simpa using h4
      by_cases h5 : way = 5
      · subst h5
        have HO := Lib.hid (show ow = 4 by rw [HOW.out, if_neg h4, if_pos rfl])
        clear h4
        go_wp2_with fail
        go_meet
        exact ⟨by rw [HO.out], rfl⟩
      · have t5 : (way == 5) = false := by simpa using h5
        have HO := Lib.hid (show ow = way by rw [HOW.out, if_neg h4, if_neg h5])
        clear h4 h5
        go_wp2_with fail
        go_meet
        exact ⟨by rw [HO.out], rfl⟩
  case rest =>
  obtain ⟨rfl, rfl⟩ := hcut
  rcases HLAW.out with ⟨rfl, rfl⟩ | ⟨rfl, rfl⟩ | ⟨b', hb1, hb2, ⟨rfl, rfl⟩ | ⟨rfl, rfl⟩⟩
  · simp only [roundV_none] at HA HB
    clear HLAW
    go_wp2_with fail
    refine (HA.out _).mono ?_
    rintro e w2 ⟨rfl, hb⟩
    have HB2 := Lib.hid (keepb HB1.out hb)
    clear hb
    go_wp2_with fail
    refine (HT.out _).mono ?_
    rintro e w3 ⟨rfl, rfl⟩
    go_wp2_with fail
    refine (HB.out _).mono ?_
    rintro e w3 ⟨rfl, hb⟩
    have HB3 := Lib.hid (keepb HB2.out hb)
    clear hb
    go_wp2_with fail
    refine (wakes_yes _).mono ?_
    rintro e w4 ⟨rfl, hb⟩
    have HB4 := Lib.hid (keepb HB3.out hb)
    clear hb HA HB HT
    go_wp2_with (go_at_call 12; refine (number_yes 41 _).mono ?_; rintro e wn ⟨rfl, rfl⟩)
    go_ret
    exact ⟨rfl, HB4.out⟩
  · simp only [roundV_some] at HA HB
    clear HLAW
    have e0 : ((0 : Nat) : Int) = 0 := rfl
    rw [e0] at HA HB
    clear e0
    go_wp2_with fail
    refine (HA.out _).mono ?_
    rintro e w2 ⟨rfl, hb⟩
    have HB2 := Lib.hid (keepb HB1.out hb)
    clear hb
    go_wp2_with fail
    refine (HT.out _).mono ?_
    rintro e w3 ⟨rfl, rfl⟩
    go_wp2_with fail
    refine (HB.out _).mono ?_
    rintro e w3 ⟨rfl, hb⟩
    have HB3 := Lib.hid (keepb HB2.out hb)
    clear hb
    go_wp2_with fail
    refine (wakes_yes _).mono ?_
    rintro e w4 ⟨rfl, hb⟩
    have HB4 := Lib.hid (keepb HB3.out hb)
    clear hb HA HB HT
    go_wp2_with fail
    go_ret
    exact ⟨rfl, HB4.out⟩
  all_goals
    simp only [roundV_some] at HA HB
    obtain ⟨x1, x2⟩ := xor_top b' hb2
    generalize hc : b' + 9223372036854775808 = c' at *
    have t1 : ((b' : Int) == 0) = false := by simp; omega
    have t2 : ((c' : Int) == 0) = false := by simp; omega
    clear HLAW hb1 hb2 hc
    go_wp2_with fail
    refine (HA.out _).mono ?_
    rintro e w2 ⟨rfl, hb⟩
    have HB2 := Lib.hid (keepb HB1.out hb)
    clear hb
    go_wp2_with fail
    refine (HT.out _).mono ?_
    rintro e w3 ⟨rfl, rfl⟩
    go_wp2_with fail
    refine (HB.out _).mono ?_
    rintro e w3 ⟨rfl, hb⟩
    have HB3 := Lib.hid (keepb HB2.out hb)
    clear hb
    go_wp2_with fail
    refine (wakes_yes _).mono ?_
    rintro e w4 ⟨rfl, hb⟩
    have HB4 := Lib.hid (keepb HB3.out hb)
    clear hb HA HB HT
    go_wp2_with fail
    go_ret
    exact ⟨rfl, HB4.out⟩
end Go.Proofs.YtjggmdlecdbeeaaDoor.decTurns
