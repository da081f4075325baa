/- The reference's digits: a float's text (Text). -/
import Derived.Test.YtnajondbdeclmaaGreatDoorFiveS
import Derived.Test.YtnajondbdeclmaaGreatDoorFiveM
import Derived.Test.YtnajondbdeclmaaGreatDoorDigJ
namespace Go.Proofs.YtnajondbdeclmaaGreatDoor
open Go.RowKit
set_option linter.unusedSimpArgs false
set_option linter.unusedVariables false

set_option maxHeartbeats 8000000 in
set_option maxRecDepth 100000 in
theorem rtext_walk (n m z : Nat) (q : Int) (g : Bool) (d : List UInt8) (x : Int) (w : World)
    (HP : Hid (∀ W, Calls Tryz.prog 71 #[.int .u64 (n : Int)] W fun e w' => e = .returned (.tuple #[.int .u64 (m : Nat), .int .i64 q]) ∧ W = w'))
    (HS : Hid (∀ W, Calls Tryz.prog 14 #[.int .u64 (n : Int)] W fun e w' => e = .returned (.tuple #[.string ⟨d.toArray⟩, .int .i64 x, .int .i64 0]) ∧ Below W.heap.size W w'))
    (HQ : Hid (0 < q ∨ q ≤ -53 ∨ ∃ j : Nat, q = -(j : Int) ∧ j ≤ 52 ∧ m % 2 ^ j ≠ 0))
    (e1 : (n : Int) / 9223372036854775808 = (z : Int)) (hnI : (n : Int) ≤ 18446744073709551615) (hmI : (m : Int) ≤ 9007199254740992) (HZ : Hid ((z = 1 ∧ g = true) ∨ (z = 0 ∧ g = false)))
    (hd48 : d ≠ [48]) (h0 : 1 ≤ d.length) (h1 : d.length ≤ 5000) (h2 : -5000 ≤ x) (h3 : x ≤ 5000) (hq1 : -1074 ≤ q) (hq2 : q ≤ 971) :
    Calls Tryz.prog 19 #[.int .u64 (n : Int)] w fun e w' => e = .returned (.tuple #[.string ⟨(textR g d x).toArray⟩, .int .i64 0]) ∧ Below w.heap.size w w' := by
  have HL0 := Lib.hid h0
  have HL1 := Lib.hid h1
  have HX2 := Lib.hid h2
  have HX3 := Lib.hid h3
  have hd48 : (d == [48]) = false := by rw [beq_eq_false_iff_ne]; exact hd48
  clear h0 h1 h2 h3
  have HNO := Lib.hid (fun W j (hj : j ≤ 100000) => rnoughts_any j W hj)
  have HNU := Lib.hid (fun W j (hj : j < 9223372036854775808) => rnum_any j W hj)
  have HTX := Lib.hid (show textR g d x = gS g ++ (if (d.length : Int) ≤ x ∧ x ≤ 21 then d ++ List.replicate (x - d.length).toNat 48
    else if 0 < x ∧ x ≤ 21 then (d.take x.toNat ++ [46]) ++ d.drop x.toNat
    else if -6 < x ∧ x ≤ 0 then ([48, 46] ++ List.replicate (-x).toNat 48) ++ d
    else ((d.take 1 ++ (if 1 < d.length then 46 :: d.drop 1 else [])) ++ (if 0 < x then [101, 43] else [101])) ++ Lib.itoa (x - 1)) from rfl)
  generalize textR g d x = tx at *
  go_enter Tryz.func19, Tryz.ntmps19
  go_wp2_with fail
  refine (HP.out _).mono ?_
  rintro e w1 ⟨rfl, rfl⟩
  go_upto_region 2 with fail
  go_cut [30] from 17 to 30 (fun s30 wx => s30 = .bool false ∧ w = wx)
  case first =>
    rcases HQ.out with hq | hq | ⟨j, hq, hj, hm⟩
    · have t1 : decide (q ≤ 0) = false := decide_eq_false (by omega)
      clear hq
      go_wp2_with fail
      go_meet
      exact ⟨rfl, rfl⟩
    · have t1 : decide (q ≤ 0) = true := decide_eq_true (by omega)
      have t2 : decide (-53 < q) = false := decide_eq_false (by omega)
      clear hq
      go_wp2_with fail
      go_meet
      exact ⟨rfl, rfl⟩
    · have t1 : decide (q ≤ 0) = true := decide_eq_true (by omega)
      have t2 : decide (-53 < q) = true := decide_eq_true (by omega)
      have k1 : -q = (j : Int) := by omega
      have k2 : IntKind.i64.wrap (-q) = (j : Int) := by rw [IntWalk.i64_in _ (by omega)]; exact k1
      have hpw : 2 ^ j ≤ 4503599627370496 := Nat.pow_le_pow_right (show 0 < 2 by decide) hj
      have hp0 : 0 < 2 ^ j := Nat.pow_pos (by decide)
      have hsh2 : IntKind.u64.wrap ((2 : Int) ^ j) = ((2 ^ j : Nat) : Int) := by
        have := shl_w 1 j
        rw [Nat.one_mul, Nat.mod_eq_of_lt (by unfold W64; omega), Int.natCast_one, Int.one_mul] at this
        exact this
      generalize 2 ^ j = P at *
      obtain ⟨r, hr⟩ : ∃ r, m % P = r := ⟨_, rfl⟩
      have hrr : (m : Int) % (P : Int) = (r : Int) := by rw [← hr, Int.natCast_emod]
      have t3 : ((r : Int) == 0) = false := by rw [beq_eq_false_iff_ne]; omega
      have hPI : (0 : Int) < (P : Int) := by omega
      have hP0 : ((P : Int) == 0) = false := by rw [beq_eq_false_iff_ne]; omega
      have hjI : (j : Int) ≤ 52 := by omega
      clear hq hm hpw hr
      go_wp2_with fail
      go_meet
      exact ⟨rfl, rfl⟩
  case rest =>
  obtain ⟨rfl, hwx⟩ := hcut
  subst hwx
  clear hmI
  go_wp2_with fail
  refine (HS.out _).mono ?_
  rintro e w2 ⟨rfl, hb2⟩
  have BB := Lib.hid hb2
  clear hb2 HP HS HQ
  have hd1 := HL0.out
  have hd2 := HL1.out
  have hdI : (d.length : Int) ≤ 5000 := by omega
  have hzq : ((z : Int) == 1) = g := by
    rcases HZ.out with ⟨rfl, rfl⟩ | ⟨rfl, rfl⟩ <;> rfl
  go_upto_if 62 with fail
  clear hd48 hzq HZ
  go_cut [11] from 11 to 62 (fun s11 wx => s11 = .string ⟨(gS g).toArray⟩ ∧ w2 = wx)
  case first =>
    cases g
    all_goals
      go_wp2_with fail
      go_meet
      exact ⟨rfl, rfl⟩
  case rest =>
  obtain ⟨rfl, hwx⟩ := hcut
  subst hwx
  clear e1 hnI hq1 hq2
  have hG : (gS g).length ≤ 1 := by unfold gS; split <;> simp
  generalize gS g = G at *
  have hGI : (G.length : Int) ≤ 1 := by omega
  clear hG
  have hx2 := HX2.out
  have hx3 := HX3.out
  by_cases a1 : (d.length : Int) ≤ x ∧ x ≤ 21
  · have f1 : decide ((d.length : Int) ≤ x) = true := decide_eq_true a1.1
    have f2 : decide (x ≤ 21) = true := decide_eq_true a1.2
    obtain ⟨c, hc⟩ : ∃ c : Nat, x - (d.length : Int) = (c : Int) := ⟨(x - (d.length : Int)).toNat, by omega⟩
    have f3 : IntKind.i64.wrap (x - (d.length : Int)) = (c : Int) := by rw [IntWalk.i64_in _ (by omega)]; exact hc
    have HR := Lib.hid (fun W => HNO.out W c (by omega))
    have HV := Lib.hid (show tx = G ++ (d ++ List.replicate c 48) by rw [HTX.out, if_pos a1, hc]; rfl)
    have hRl : ((List.replicate c (48 : UInt8)).length : Int) ≤ 5000 := by rw [List.length_replicate]; omega
    have hsum : (((d ++ List.replicate c (48 : UInt8)).length : Nat) : Int) ≤ 10000 := by rw [List.length_append]; omega
    have hc1 := sv_cat d (List.replicate c 48)
    have hc2 := sv_cat G (d ++ List.replicate c 48)
    clear a1 hc HTX hd1 hd2 hx2 hx3
    generalize hD : d ++ List.replicate c (48 : UInt8) = D at *
    clear hD
    generalize List.replicate c (48 : UInt8) = R at *
    go_wp2_with fail
    refine (HR.out _).mono ?_
    rintro e w3 ⟨rfl, rfl⟩
    go_wp2_with fail
    go_ret2
    exact ⟨by rw [HV.out] <;> rfl, BB.out⟩
  by_cases a2 : 0 < x ∧ x ≤ 21
  · obtain ⟨c, rfl⟩ : ∃ c : Nat, x = (c : Int) := ⟨x.toNat, by omega⟩
    have f1 : decide ((d.length : Int) ≤ (c : Int)) = false := decide_eq_false (by omega)
    have f1' : decide (d.length ≤ c) = false := decide_eq_false (by omega)
    have f2 : decide (0 < (c : Int)) = true := decide_eq_true a2.1
    have f2' : decide (0 < c) = true := decide_eq_true (by omega)
    have f3 : decide ((c : Int) ≤ 21) = true := decide_eq_true a2.2
    have HV := Lib.hid (show tx = G ++ ((d.take c ++ [46]) ++ d.drop c) by rw [HTX.out, if_neg a1, if_pos a2]; rfl)
    have e1 := cut_take d c
    have e2 := cut_drop d c d.length rfl
    have l1 : ((d.take c).length : Int) ≤ 5000 := by rw [List.length_take]; omega
    have l2 : ((d.drop c).length : Int) ≤ 5000 := by rw [List.length_drop]; omega
    have hcl : (c : Int) ≤ (d.length : Int) := by omega
    have hc1 := sv_cat (d.take c) [46]
    have l3 : (((d.take c ++ [46] : List UInt8)).length : Int) ≤ 5001 := by rw [List.length_append]; simp only [List.length_singleton]; omega
    have hc2 := sv_cat (d.take c ++ [46]) (d.drop c)
    have l4 : (((d.take c ++ [46] ++ d.drop c : List UInt8)).length : Int) ≤ 10001 := by rw [List.length_append]; omega
    have hc3 := sv_cat G (d.take c ++ [46] ++ d.drop c)
    clear a1 a2 HTX hd1 hd2 hx2 hx3
    generalize hD : d.take c ++ [46] ++ d.drop c = D at *
    generalize hE : d.take c ++ [46] = E at *
    generalize d.take c = T at *
    generalize d.drop c = R at *
    clear hD hE
    go_upto_region 25 with fail
    go_quiet (fail)
    have HB3 := Lib.hid (below_drewN BB.out nq)
    go_wp2_with fail
    go_ret2
    exact ⟨by rw [HV.out] <;> rfl, HB3.out⟩
  by_cases a3 : -6 < x ∧ x ≤ 0
  · have f1 : decide ((d.length : Int) ≤ x) = false := decide_eq_false (by omega)
    have f2 : decide (0 < x) = false := decide_eq_false (by omega)
    have f3 : decide (-6 < x) = true := decide_eq_true a3.1
    have f4 : decide (x ≤ 0) = true := decide_eq_true a3.2
    obtain ⟨c, hc⟩ : ∃ c : Nat, -x = (c : Int) := ⟨(-x).toNat, by omega⟩
    have f5 : IntKind.i64.wrap (-x) = (c : Int) := by rw [IntWalk.i64_in _ (by omega)]; exact hc
    have HR := Lib.hid (fun W => HNO.out W c (by omega))
    have HV := Lib.hid (show tx = G ++ (([48, 46] ++ List.replicate c 48) ++ d) by rw [HTX.out, if_neg a1, if_neg a2, if_pos a3, hc]; rfl)
    have hRl : ((List.replicate c (48 : UInt8)).length : Int) ≤ 5000 := by rw [List.length_replicate]; omega
    have hc1 := sv_cat [48, 46] (List.replicate c 48)
    have l1 : ((([48, 46] ++ List.replicate c 48 : List UInt8)).length : Int) ≤ 5002 := by simp; omega
    have hc2 := sv_cat ([48, 46] ++ List.replicate c 48) d
    have l2 : ((([48, 46] ++ List.replicate c 48 ++ d : List UInt8)).length : Int) ≤ 10002 := by rw [List.length_append]; omega
    have hc3 := sv_cat G ([48, 46] ++ List.replicate c 48 ++ d)
    clear a1 a2 a3 hc HTX hd1 hd2 hx2 hx3
    generalize hD : [48, 46] ++ List.replicate c (48 : UInt8) ++ d = D at *
    generalize hE : [48, 46] ++ List.replicate c (48 : UInt8) = E at *
    generalize List.replicate c (48 : UInt8) = R at *
    clear hD hE
    go_wp2_with fail
    refine (HR.out _).mono ?_
    rintro e w3 ⟨rfl, rfl⟩
    go_wp2_with fail
    go_ret2
    exact ⟨by rw [HV.out] <;> rfl, BB.out⟩
  -- the form with an exponent
  have l0 : ((d.take 1).length : Int) ≤ 1 := by have := List.length_take_le 1 d; omega
  have l1 : ((d.drop 1).length : Int) ≤ 5000 := by rw [List.length_drop]; omega
  have e1 := cut_take d 1
  have e2 := cut_drop d 1 d.length rfl
  have hdl : (1 : Int) ≤ (d.length : Int) := by omega
  have hdl' : 1 ≤ d.length := by omega
  have hv0 : tx = G ++ (((d.take 1 ++ (if 1 < d.length then 46 :: d.drop 1 else [])) ++ (if 0 < x then [101, 43] else [101])) ++ Lib.itoa (x - 1)) := by rw [HTX.out, if_neg a1, if_neg a2, if_neg a3]
  have hlen1 : (1 : Int) < (d.length : Int) ∨ d.length = 1 := by omega
  clear HTX
  generalize hT : d.take 1 = T at *
  generalize hR : d.drop 1 = R at *
  clear hT hR
  have HVV := Lib.hid hv0
  clear hv0
  obtain ⟨A1, hA1⟩ : ∃ A, A = G ++ T := ⟨_, rfl⟩
  obtain ⟨Pt, hPt⟩ : ∃ P : List UInt8, P = [46] ++ R := ⟨_, rfl⟩
  have b1 : (A1.length : Int) ≤ 2 := by rw [hA1, List.length_append]; omega
  have b2 : (Pt.length : Int) ≤ 5001 := by rw [hPt, List.length_append]; simp only [List.length_singleton]; omega
  have q1 := cat_as hA1
  have q2 := cat_as hPt
  obtain ⟨A2, hA2⟩ : ∃ A, A = A1 ++ Pt := ⟨_, rfl⟩
  have b3 : (A2.length : Int) ≤ 5003 := by rw [hA2, List.length_append]; omega
  have q3 := cat_as hA2
  have hcs : (21 < x ∧ (d.length : Int) ≤ x) ∨ (21 < x ∧ x < (d.length : Int)) ∨ x ≤ -6 := by omega
  rcases hcs with x21 | x21 | x21
  · rcases hlen1 with hl1 | hl1
    · have g1 : decide ((d.length : Int) ≤ x) = true := decide_eq_true x21.2
      have g2 : decide (x ≤ 21) = false := decide_eq_false (by omega)
      have g3 : decide (0 < x) = true := decide_eq_true (by omega)
      have g4 : decide (-6 < x) = true := decide_eq_true (by omega)
      have g5 : decide (x ≤ 0) = false := decide_eq_false (by omega)
      obtain ⟨c, hc⟩ : ∃ c : Nat, x - 1 = (c : Int) := ⟨(x - 1).toNat, by omega⟩
      have f5 : IntKind.i64.wrap (x - 1) = (c : Int) := by rw [IntWalk.i64_in _ (by omega)]; exact hc
      have hit : Lib.itoa (x - 1) = Lib.decDigits c := by rw [hc]; unfold Lib.itoa; rw [if_neg (by omega)]; rfl
      have hpre : (if 0 < x then [101, 43] else [101] : List UInt8) ++ Lib.itoa (x - 1) = [101, 43] ++ Lib.decDigits c := by rw [if_pos (by omega), hit]
      have hcI : (c : Int) ≤ 6000 := by omega
      have hdl2 : (Lib.decDigits c).length ≤ 20 := by rw [Lib.decDigits_length]; exact Lib.nDigits_le20 _ (by omega)
      have HR := Lib.hid (fun W => HNU.out W c (by omega))
      generalize Lib.decDigits c = D at *
      have hDI : (D.length : Int) ≤ 20 := by omega
      obtain ⟨Ex, hEx⟩ : ∃ E : List UInt8, E = [101, 43] ++ D := ⟨_, rfl⟩
      have q4 := cat_as hEx
      have b4 : (Ex.length : Int) ≤ 22 := by rw [hEx, List.length_append]; simp; omega
      obtain ⟨A5, hA5⟩ : ∃ A, A = A2 ++ Ex := ⟨_, rfl⟩
      have q5 := cat_as hA5
      have HV := Lib.hid (show tx = A5 by rw [HVV.out, List.append_assoc, hpre, if_pos (show 1 < d.length by omega), hA5, hEx, hA2, hPt, hA1]; simp)
      have h1 : decide ((1 : Int) < (d.length : Int)) = true := decide_eq_true (by omega)
      have h1' : decide (1 < d.length) = true := decide_eq_true (by omega)
      clear hA5 hEx hA2 hPt hA1 hit hpre hdl2 hc x21 a1 a2 a3 hd1 hd2 hx2 hx3 hdl' HVV hl1
      go_wp2_with fail
      refine (HR.out _).mono ?_
      rintro e w3 ⟨rfl, rfl⟩
      go_wp2_with fail
      go_ret2
      exact ⟨by rw [HV.out] <;> rfl, BB.out⟩
    · have g1 : decide ((d.length : Int) ≤ x) = true := decide_eq_true x21.2
      have g2 : decide (x ≤ 21) = false := decide_eq_false (by omega)
      have g3 : decide (0 < x) = true := decide_eq_true (by omega)
      have g4 : decide (-6 < x) = true := decide_eq_true (by omega)
      have g5 : decide (x ≤ 0) = false := decide_eq_false (by omega)
      obtain ⟨c, hc⟩ : ∃ c : Nat, x - 1 = (c : Int) := ⟨(x - 1).toNat, by omega⟩
      have f5 : IntKind.i64.wrap (x - 1) = (c : Int) := by rw [IntWalk.i64_in _ (by omega)]; exact hc
      have hit : Lib.itoa (x - 1) = Lib.decDigits c := by rw [hc]; unfold Lib.itoa; rw [if_neg (by omega)]; rfl
      have hpre : (if 0 < x then [101, 43] else [101] : List UInt8) ++ Lib.itoa (x - 1) = [101, 43] ++ Lib.decDigits c := by rw [if_pos (by omega), hit]
      have hcI : (c : Int) ≤ 6000 := by omega
      have hdl2 : (Lib.decDigits c).length ≤ 20 := by rw [Lib.decDigits_length]; exact Lib.nDigits_le20 _ (by omega)
      have HR := Lib.hid (fun W => HNU.out W c (by omega))
      generalize Lib.decDigits c = D at *
      have hDI : (D.length : Int) ≤ 20 := by omega
      obtain ⟨Ex, hEx⟩ : ∃ E : List UInt8, E = [101, 43] ++ D := ⟨_, rfl⟩
      have q4 := cat_as hEx
      have b4 : (Ex.length : Int) ≤ 22 := by rw [hEx, List.length_append]; simp; omega
      obtain ⟨A5, hA5⟩ : ∃ A, A = A1 ++ Ex := ⟨_, rfl⟩
      have q5 := cat_as hA5
      have HV := Lib.hid (show tx = A5 by rw [HVV.out, List.append_assoc, hpre, if_neg (show ¬ 1 < d.length by omega), hA5, hEx, hA1]; simp)
      have h1 : decide ((1 : Int) < (d.length : Int)) = false := decide_eq_false (by omega)
      have h1' : decide (1 < d.length) = false := decide_eq_false (by omega)
      clear hA5 hEx hA2 hPt hA1 hit hpre hdl2 hc x21 a1 a2 a3 hd1 hd2 hx2 hx3 hdl' HVV hl1
      go_wp2_with fail
      refine (HR.out _).mono ?_
      rintro e w3 ⟨rfl, rfl⟩
      go_wp2_with fail
      go_ret2
      exact ⟨by rw [HV.out] <;> rfl, BB.out⟩
  · rcases hlen1 with hl1 | hl1
    · have g1 : decide ((d.length : Int) ≤ x) = false := decide_eq_false (by omega)
      have g2 : decide (x ≤ 21) = false := decide_eq_false (by omega)
      have g3 : decide (0 < x) = true := decide_eq_true (by omega)
      have g4 : decide (-6 < x) = true := decide_eq_true (by omega)
      have g5 : decide (x ≤ 0) = false := decide_eq_false (by omega)
      obtain ⟨c, hc⟩ : ∃ c : Nat, x - 1 = (c : Int) := ⟨(x - 1).toNat, by omega⟩
      have f5 : IntKind.i64.wrap (x - 1) = (c : Int) := by rw [IntWalk.i64_in _ (by omega)]; exact hc
      have hit : Lib.itoa (x - 1) = Lib.decDigits c := by rw [hc]; unfold Lib.itoa; rw [if_neg (by omega)]; rfl
      have hpre : (if 0 < x then [101, 43] else [101] : List UInt8) ++ Lib.itoa (x - 1) = [101, 43] ++ Lib.decDigits c := by rw [if_pos (by omega), hit]
      have hcI : (c : Int) ≤ 6000 := by omega
      have hdl2 : (Lib.decDigits c).length ≤ 20 := by rw [Lib.decDigits_length]; exact Lib.nDigits_le20 _ (by omega)
      have HR := Lib.hid (fun W => HNU.out W c (by omega))
      generalize Lib.decDigits c = D at *
      have hDI : (D.length : Int) ≤ 20 := by omega
      obtain ⟨Ex, hEx⟩ : ∃ E : List UInt8, E = [101, 43] ++ D := ⟨_, rfl⟩
      have q4 := cat_as hEx
      have b4 : (Ex.length : Int) ≤ 22 := by rw [hEx, List.length_append]; simp; omega
      obtain ⟨A5, hA5⟩ : ∃ A, A = A2 ++ Ex := ⟨_, rfl⟩
      have q5 := cat_as hA5
      have HV := Lib.hid (show tx = A5 by rw [HVV.out, List.append_assoc, hpre, if_pos (show 1 < d.length by omega), hA5, hEx, hA2, hPt, hA1]; simp)
      have h1 : decide ((1 : Int) < (d.length : Int)) = true := decide_eq_true (by omega)
      have h1' : decide (1 < d.length) = true := decide_eq_true (by omega)
      clear hA5 hEx hA2 hPt hA1 hit hpre hdl2 hc x21 a1 a2 a3 hd1 hd2 hx2 hx3 hdl' HVV hl1
      go_wp2_with fail
      refine (HR.out _).mono ?_
      rintro e w3 ⟨rfl, rfl⟩
      go_wp2_with fail
      go_ret2
      exact ⟨by rw [HV.out] <;> rfl, BB.out⟩
    · have g1 : decide ((d.length : Int) ≤ x) = false := decide_eq_false (by omega)
      have g2 : decide (x ≤ 21) = false := decide_eq_false (by omega)
      have g3 : decide (0 < x) = true := decide_eq_true (by omega)
      have g4 : decide (-6 < x) = true := decide_eq_true (by omega)
      have g5 : decide (x ≤ 0) = false := decide_eq_false (by omega)
      obtain ⟨c, hc⟩ : ∃ c : Nat, x - 1 = (c : Int) := ⟨(x - 1).toNat, by omega⟩
      have f5 : IntKind.i64.wrap (x - 1) = (c : Int) := by rw [IntWalk.i64_in _ (by omega)]; exact hc
      have hit : Lib.itoa (x - 1) = Lib.decDigits c := by rw [hc]; unfold Lib.itoa; rw [if_neg (by omega)]; rfl
      have hpre : (if 0 < x then [101, 43] else [101] : List UInt8) ++ Lib.itoa (x - 1) = [101, 43] ++ Lib.decDigits c := by rw [if_pos (by omega), hit]
      have hcI : (c : Int) ≤ 6000 := by omega
      have hdl2 : (Lib.decDigits c).length ≤ 20 := by rw [Lib.decDigits_length]; exact Lib.nDigits_le20 _ (by omega)
      have HR := Lib.hid (fun W => HNU.out W c (by omega))
      generalize Lib.decDigits c = D at *
      have hDI : (D.length : Int) ≤ 20 := by omega
      obtain ⟨Ex, hEx⟩ : ∃ E : List UInt8, E = [101, 43] ++ D := ⟨_, rfl⟩
      have q4 := cat_as hEx
      have b4 : (Ex.length : Int) ≤ 22 := by rw [hEx, List.length_append]; simp; omega
      obtain ⟨A5, hA5⟩ : ∃ A, A = A1 ++ Ex := ⟨_, rfl⟩
      have q5 := cat_as hA5
      have HV := Lib.hid (show tx = A5 by rw [HVV.out, List.append_assoc, hpre, if_neg (show ¬ 1 < d.length by omega), hA5, hEx, hA1]; simp)
      have h1 : decide ((1 : Int) < (d.length : Int)) = false := decide_eq_false (by omega)
      have h1' : decide (1 < d.length) = false := decide_eq_false (by omega)
      clear hA5 hEx hA2 hPt hA1 hit hpre hdl2 hc x21 a1 a2 a3 hd1 hd2 hx2 hx3 hdl' HVV hl1
      go_wp2_with fail
      refine (HR.out _).mono ?_
      rintro e w3 ⟨rfl, rfl⟩
      go_wp2_with fail
      go_ret2
      exact ⟨by rw [HV.out] <;> rfl, BB.out⟩
  · rcases hlen1 with hl1 | hl1
    · have g1 : decide ((d.length : Int) ≤ x) = false := decide_eq_false (by omega)
      have g2 : decide (x ≤ 21) = true := decide_eq_true (by omega)
      have g3 : decide (0 < x) = false := decide_eq_false (by omega)
      have g4 : decide (-6 < x) = false := decide_eq_false (by omega)
      have g5 : decide (x ≤ 0) = true := decide_eq_true (by omega)
      obtain ⟨c, hc⟩ : ∃ c : Nat, 1 - x = (c : Int) := ⟨(1 - x).toNat, by omega⟩
      have f5 : IntKind.i64.wrap (1 - x) = (c : Int) := by rw [IntWalk.i64_in _ (by omega)]; exact hc
      have hit : Lib.itoa (x - 1) = 45 :: Lib.decDigits c := by unfold Lib.itoa; rw [if_pos (by omega)]; congr 2; omega
      have hpre : (if 0 < x then [101, 43] else [101] : List UInt8) ++ Lib.itoa (x - 1) = [101, 45] ++ Lib.decDigits c := by rw [if_neg (by omega), hit]; rfl
      have hcI : (c : Int) ≤ 6000 := by omega
      have hdl2 : (Lib.decDigits c).length ≤ 20 := by rw [Lib.decDigits_length]; exact Lib.nDigits_le20 _ (by omega)
      have HR := Lib.hid (fun W => HNU.out W c (by omega))
      generalize Lib.decDigits c = D at *
      have hDI : (D.length : Int) ≤ 20 := by omega
      obtain ⟨Ex, hEx⟩ : ∃ E : List UInt8, E = [101, 45] ++ D := ⟨_, rfl⟩
      have q4 := cat_as hEx
      have b4 : (Ex.length : Int) ≤ 22 := by rw [hEx, List.length_append]; simp; omega
      obtain ⟨A5, hA5⟩ : ∃ A, A = A2 ++ Ex := ⟨_, rfl⟩
      have q5 := cat_as hA5
      have HV := Lib.hid (show tx = A5 by rw [HVV.out, List.append_assoc, hpre, if_pos (show 1 < d.length by omega), hA5, hEx, hA2, hPt, hA1]; simp)
      have h1 : decide ((1 : Int) < (d.length : Int)) = true := decide_eq_true (by omega)
      have h1' : decide (1 < d.length) = true := decide_eq_true (by omega)
      clear hA5 hEx hA2 hPt hA1 hit hpre hdl2 hc x21 a1 a2 a3 hd1 hd2 hx2 hx3 hdl' HVV hl1
      go_wp2_with fail
      refine (HR.out _).mono ?_
      rintro e w3 ⟨rfl, rfl⟩
      go_wp2_with fail
      go_ret2
      exact ⟨by rw [HV.out] <;> rfl, BB.out⟩
    · have g1 : decide ((d.length : Int) ≤ x) = false := decide_eq_false (by omega)
      have g2 : decide (x ≤ 21) = true := decide_eq_true (by omega)
      have g3 : decide (0 < x) = false := decide_eq_false (by omega)
      have g4 : decide (-6 < x) = false := decide_eq_false (by omega)
      have g5 : decide (x ≤ 0) = true := decide_eq_true (by omega)
      obtain ⟨c, hc⟩ : ∃ c : Nat, 1 - x = (c : Int) := ⟨(1 - x).toNat, by omega⟩
      have f5 : IntKind.i64.wrap (1 - x) = (c : Int) := by rw [IntWalk.i64_in _ (by omega)]; exact hc
      have hit : Lib.itoa (x - 1) = 45 :: Lib.decDigits c := by unfold Lib.itoa; rw [if_pos (by omega)]; congr 2; omega
      have hpre : (if 0 < x then [101, 43] else [101] : List UInt8) ++ Lib.itoa (x - 1) = [101, 45] ++ Lib.decDigits c := by rw [if_neg (by omega), hit]; rfl
      have hcI : (c : Int) ≤ 6000 := by omega
      have hdl2 : (Lib.decDigits c).length ≤ 20 := by rw [Lib.decDigits_length]; exact Lib.nDigits_le20 _ (by omega)
      have HR := Lib.hid (fun W => HNU.out W c (by omega))
      generalize Lib.decDigits c = D at *
      have hDI : (D.length : Int) ≤ 20 := by omega
      obtain ⟨Ex, hEx⟩ : ∃ E : List UInt8, E = [101, 45] ++ D := ⟨_, rfl⟩
      have q4 := cat_as hEx
      have b4 : (Ex.length : Int) ≤ 22 := by rw [hEx, List.length_append]; simp; omega
      obtain ⟨A5, hA5⟩ : ∃ A, A = A1 ++ Ex := ⟨_, rfl⟩
      have q5 := cat_as hA5
      have HV := Lib.hid (show tx = A5 by rw [HVV.out, List.append_assoc, hpre, if_neg (show ¬ 1 < d.length by omega), hA5, hEx, hA1]; simp)
      have h1 : decide ((1 : Int) < (d.length : Int)) = false := decide_eq_false (by omega)
      have h1' : decide (1 < d.length) = false := decide_eq_false (by omega)
      clear hA5 hEx hA2 hPt hA1 hit hpre hdl2 hc x21 a1 a2 a3 hd1 hd2 hx2 hx3 hdl' HVV hl1
      go_wp2_with fail
      refine (HR.out _).mono ?_
      rintro e w3 ⟨rfl, rfl⟩
      go_wp2_with fail
      go_ret2
      exact ⟨by rw [HV.out] <;> rfl, BB.out⟩
set_option maxHeartbeats 4000000 in
set_option maxRecDepth 100000 in
theorem rtext_whole (n m z j v : Nat) (q : Int) (g : Bool) (w : World)
    (HP : Hid (∀ W, Calls Tryz.prog 71 #[.int .u64 (n : Int)] W fun e w' => e = .returned (.tuple #[.int .u64 (m : Nat), .int .i64 q]) ∧ W = w'))
    (hq : q = -(j : Int)) (hj : j ≤ 52) (hm : m % 2 ^ j = 0) (hv : m / 2 ^ j = v) (hm0 : 0 < m)
    (e1 : (n : Int) / 9223372036854775808 = (z : Int)) (hnI : (n : Int) ≤ 18446744073709551615) (hmI : (m : Int) ≤ 9007199254740992) (HZ : Hid ((z = 1 ∧ g = true) ∨ (z = 0 ∧ g = false))) :
    Calls Tryz.prog 19 #[.int .u64 (n : Int)] w fun e w' => e = .returned (.tuple #[.string ⟨(gS g ++ Lib.decDigits v).toArray⟩, .int .i64 0]) ∧ Below w.heap.size w w' := by
  have hvI : v ≤ 9007199254740992 := by
    rw [← hv]
    exact Nat.le_trans (Nat.div_le_self _ _) (by omega)
  have HN := Lib.hid (fun W => rnum_any v W (by omega))
  have hln : (Lib.decDigits v).length ≤ 20 := by rw [Lib.decDigits_length]; exact Lib.nDigits_le20 _ (by omega)
  have hlI : ((Lib.decDigits v).length : Int) ≤ 20 := by omega
  have t1 : decide (q ≤ 0) = true := decide_eq_true (by omega)
  have t2 : decide (-53 < q) = true := decide_eq_true (by omega)
  have k1 : -q = (j : Int) := by omega
  have k2 : IntKind.i64.wrap (-q) = (j : Int) := by rw [IntWalk.i64_in _ (by omega)]; exact k1
  have hpw : 2 ^ j ≤ 4503599627370496 := Nat.pow_le_pow_right (show 0 < 2 by decide) hj
  have hp0 : 0 < 2 ^ j := Nat.pow_pos (by decide)
  have hsh2 : IntKind.u64.wrap ((2 : Int) ^ j) = ((2 ^ j : Nat) : Int) := by
    have := shl_w 1 j
    rw [Nat.one_mul, Nat.mod_eq_of_lt (by unfold W64; omega), Int.natCast_one, Int.one_mul] at this
    exact this
  have hrr : (m : Int) % ((2 ^ j : Nat) : Int) = 0 := by rw [← Int.natCast_emod, hm]; rfl
  have hdd : (m : Int) / ((2 ^ j : Nat) : Int) = (v : Int) := by rw [← Int.natCast_ediv, hv]
  have hdd2 : (m : Int) / (2 : Int) ^ j = (v : Int) := by rw [← hdd]; congr 1
  have hPI : (0 : Int) < ((2 ^ j : Nat) : Int) := by omega
  have hP0 : (((2 ^ j : Nat) : Int) == 0) = false := by rw [beq_eq_false_iff_ne]; omega
  have hjI : (j : Int) ≤ 52 := by omega
  have hc1 := sv_cat [45] (Lib.decDigits v)
  have t5 : decide (0 < (m : Int)) = true := decide_eq_true (by omega)
  have t5' : decide (0 < m) = true := decide_eq_true hm0
  have hvB : (v : Int) ≤ 9007199254740992 := by omega
  generalize Lib.decDigits v = D at *
  generalize 2 ^ j = P at *
  clear hq hm hv hm0 hpw hp0 hln hvI
  rcases HZ.out with ⟨rfl, rfl⟩ | ⟨rfl, rfl⟩
  all_goals
    go_enter Tryz.func19, Tryz.ntmps19
    go_wp2_with fail
    refine (HP.out _).mono ?_
    rintro e w1 ⟨rfl, rfl⟩
    go_wp2_with fail
    refine (HN.out _).mono ?_
    rintro e w3 ⟨rfl, rfl⟩
    go_wp2_with fail
    go_ret2
    exact ⟨rfl, Below.refl _ _⟩
set_option maxRecDepth 100000 in
theorem rtext_inf (n m : Nat) (w : World)
    (HP : Hid (∀ W, Calls Tryz.prog 71 #[.int .u64 (n : Int)] W fun e w' => e = .returned (.tuple #[.int .u64 (m : Nat), .int .i64 972]) ∧ W = w'))
    (HS : Hid (∀ W, Calls Tryz.prog 14 #[.int .u64 (n : Int)] W fun e w' => e = .returned (.tuple #[.string ⟨#[]⟩, .int .i64 0, .int .i64 50]) ∧ Below W.heap.size W w')) :
    Calls Tryz.prog 19 #[.int .u64 (n : Int)] w fun e w' => e = .returned (.tuple #[.string ⟨#[]⟩, .int .i64 50]) ∧ Below w.heap.size w w' := by
  go_enter Tryz.func19, Tryz.ntmps19
  go_wp2_with fail
  refine (HP.out _).mono ?_
  rintro e w1 ⟨rfl, rfl⟩
  go_wp2_with fail
  refine (HS.out _).mono ?_
  rintro e w2 ⟨rfl, hb⟩
  go_wp2_with fail
  go_ret2
  exact ⟨rfl, hb⟩
set_option maxRecDepth 100000 in
theorem rtext_zero (n m : Nat) (w : World)
    (HP : Hid (∀ W, Calls Tryz.prog 71 #[.int .u64 (n : Int)] W fun e w' => e = .returned (.tuple #[.int .u64 (m : Nat), .int .i64 (-1074)]) ∧ W = w'))
    (HS : Hid (∀ W, Calls Tryz.prog 14 #[.int .u64 (n : Int)] W fun e w' => e = .returned (.tuple #[.string ⟨#[48]⟩, .int .i64 1, .int .i64 0]) ∧ Below W.heap.size W w')) :
    Calls Tryz.prog 19 #[.int .u64 (n : Int)] w fun e w' => e = .returned (.tuple #[.string ⟨#[48]⟩, .int .i64 0]) ∧ Below w.heap.size w w' := by
  go_enter Tryz.func19, Tryz.ntmps19
  go_wp2_with fail
  refine (HP.out _).mono ?_
  rintro e w1 ⟨rfl, rfl⟩
  go_wp2_with fail
  refine (HS.out _).mono ?_
  rintro e w2 ⟨rfl, hb⟩
  go_wp2_with fail
  go_ret2
  exact ⟨rfl, hb⟩
end Go.Proofs.YtnajondbdeclmaaGreatDoor
