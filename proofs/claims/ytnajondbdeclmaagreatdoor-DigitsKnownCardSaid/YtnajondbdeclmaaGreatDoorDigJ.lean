/- The program's digits: Text of a float that is no small whole number, put together of its digits. -/
import Derived.Test.YtnajondbdeclmaaGreatDoorDigI
import Derived.Test.YtnajondbdeclmaaGreatDoorDigT
namespace Go.Proofs.YtnajondbdeclmaaGreatDoor
open Go.RowKit
set_option linter.unusedSimpArgs false
set_option linter.unusedVariables false

theorem cut_take (l : List UInt8) (c : Nat) : (⟨l.toArray⟩ : ByteArray).extract 0 c = ⟨(l.take c).toArray⟩ := by
  apply ByteArray.ext
  simp
theorem cut_drop (l : List UInt8) (c n : Nat) (h : l.length = n) : (⟨l.toArray⟩ : ByteArray).extract c n = ⟨(l.drop c).toArray⟩ := by
  apply ByteArray.ext
  subst h
  simp
  exact List.take_of_length_le (by simp)

theorem cat_as {a b c : List UInt8} (h : c = a ++ b) : ((⟨a.toArray⟩ : ByteArray) ++ ⟨b.toArray⟩) = ⟨c.toArray⟩ := by rw [h]; exact sv_cat a b
set_option maxHeartbeats 8000000 in
set_option maxRecDepth 100000 in
theorem text_walk (n b : Nat) (g : Bool) (d : List UInt8) (x : Int) (w : World)
    (HT : Hid (∀ W, Calls Tryz.prog 67 #[.float .f64 n] W fun e w' => ∃ t, (e = .returned (.float .f64 t) ∧ Below W.heap.size W w') ∧ ((FloatKind.f64.format.order n t == some .eq) = false ∨ (FloatKind.f64.format.order b 4845873199050653696 == some .lt) = false)))
    (HA : Hid (∀ W, Calls Tryz.prog 68 #[.float .f64 n] W fun e w' => e = .returned (.float .f64 b) ∧ W = w'))
    (HB : ∀ W, (callFunc 29 #[.float .f64 n]).run Tryz.prog W = .ok (.value (.int .u64 n)) W)
    (HS : Hid (∀ W, Calls Tryz.prog 13 #[.int .u64 n] W fun e w' => e = .returned (.tuple #[.string ⟨d.toArray⟩, .int .i64 x, .nilIface]) ∧ Below W.heap.size W w'))
    (hz : FloatKind.f64.format.order n 0 = some (if g then .lt else .gt)) (h0 : 1 ≤ d.length) (h1 : d.length ≤ 5000) (h2 : -5000 ≤ x) (h3 : x ≤ 5000) (ht : Tab w) :
    Calls Tryz.prog 17 #[.float .f64 n] w fun e w' => e = .returned (.tuple #[.string ⟨(textR g d x).toArray⟩, .nilIface]) ∧ Below w.heap.size w w' := by
  have HTab := Lib.hid ht
  have HZ := Lib.hid hz
  have HL0 := Lib.hid h0
  have HL1 := Lib.hid h1
  have HX2 := Lib.hid h2
  have HX3 := Lib.hid h3
  clear hz h0 h1 h2 h3 ht
  have HTX := Lib.hid (show textR g d x = gS g ++ (if (d.length : Int) ≤ x ∧ x ≤ 21 then d ++ List.replicate (x - d.length).toNat 48
    else if 0 < x ∧ x ≤ 21 then (d.take x.toNat ++ [46]) ++ d.drop x.toNat
    else if -6 < x ∧ x ≤ 0 then ([48, 46] ++ List.replicate (-x).toNat 48) ++ d
    else ((d.take 1 ++ (if 1 < d.length then 46 :: d.drop 1 else [])) ++ (if 0 < x then [101, 43] else [101])) ++ Lib.itoa (x - 1)) from rfl)
  generalize textR g d x = tx at *
  go_enter Tryz.func17, Tryz.ntmps17
  go_upto_region 1 with fail
  go_cut [17] from 9 to 17 (fun s17 wx => s17 = .bool false ∧ Below w.heap.size w wx)
  case first =>
    go_wp2_with fail
    refine (HT.out _).mono ?_
    rintro e w1 ⟨t, ⟨rfl, hb1⟩, ho⟩
    generalize hO2 : FloatKind.f64.format.order b 4845873199050653696 = o2 at *
    generalize hO1 : FloatKind.f64.format.order n t = o at *
    have ho2 : (o == some .eq) = true → (o2 == some .lt) = false := fun h => by
      rcases ho with h2 | h2
      · rw [h2] at h; cases h
      · exact h2
    clear ho
    generalize hq : (o == some .eq) = q at *
    generalize hr : (o2 == some .lt) = r at *
    cases q
    case true =>
      have ho3 : r = false := ho2 rfl
      subst ho3
      clear ho2
      go_wp2_with fail
      refine (HA.out _).mono ?_
      rintro e w2 ⟨rfl, rfl⟩
      go_wp2_with fail
      go_meet
      exact ⟨rfl, hb1⟩
    case false =>
      clear ho2
      go_wp2_with fail
      go_meet
      exact ⟨rfl, hb1⟩
  case rest =>
  obtain ⟨rfl, hbx⟩ := hcut
  have HBX := Lib.hid hbx
  clear hbx
  go_wp2_with fail
  refine (HS.out _).mono ?_
  rintro e w2 ⟨rfl, hb2⟩
  have HB2 := Lib.hid (keepb HBX.out hb2)
  clear hb2
  obtain ⟨L, hL⟩ : ∃ L, L = d.length := ⟨_, rfl⟩
  have HLE := Lib.hid hL
  have hd0 : d ≠ [] := by intro h; have := HL0.out; rw [h] at this; simp at this
  have HD := Lib.hid hd0
  clear hL hd0
  have hz := HZ.out
  have hz2 : (FloatKind.f64.format.order n 0 == some .eq) = false := by rw [hz]; cases g <;> rfl
  have hzq : (FloatKind.f64.format.order n 0 == some .lt) = g := by rw [hz]; cases g <;> rfl
  clear hz
  go_upto_if 39 with fail
  clear hzq hz2
  go_cut [8] from 8 to 39 (fun s8 wx => s8 = .string ⟨(gS g).toArray⟩ ∧ w2 = wx)
  case first =>
    cases g
    all_goals
      go_wp2_with fail
      go_meet
      exact ⟨rfl, rfl⟩
  case rest =>
  obtain ⟨rfl, hwx⟩ := hcut
  subst hwx
  clear HT HA HS
  have hG : (gS g).length ≤ 1 := by unfold gS; split <;> simp
  generalize gS g = G at *
  have hGI : (G.length : Int) ≤ 1 := by omega
  clear hG
  have hd1 := HL0.out
  have hd2 := HL1.out
  have hdI : (d.length : Int) ≤ 5000 := by omega
  have hx2 := HX2.out
  have hx3 := HX3.out
  by_cases a1 : (d.length : Int) ≤ x ∧ x ≤ 21
  · have f1 : decide ((d.length : Int) ≤ x) = true := decide_eq_true a1.1
    have f2 : decide (x ≤ 21) = true := decide_eq_true a1.2
    obtain ⟨c, hc⟩ : ∃ c : Nat, x - (d.length : Int) = (c : Int) := ⟨(x - (d.length : Int)).toNat, by omega⟩
    have f3 : IntKind.i64.wrap (x - (d.length : Int)) = (c : Int) := by rw [IntWalk.i64_in _ (by omega)]; exact hc
    have HR := Lib.hid (fun W => repeat_d c (by omega) W)
    have HV := Lib.hid (show tx = G ++ (d ++ List.replicate c 48) by rw [HTX.out, if_pos a1, hc]; rfl)
    have hRl : ((List.replicate c (48 : UInt8)).length : Int) ≤ 5000 := by rw [List.length_replicate]; omega
    have hsum : (((d ++ List.replicate c (48 : UInt8)).length : Nat) : Int) ≤ 10000 := by rw [List.length_append]; omega
    have hc1 := sv_cat d (List.replicate c 48)
    have hc2 := sv_cat G (d ++ List.replicate c 48)
    clear a1 hc HTX hd1 hd2 hx2 hx3
    generalize hD : d ++ List.replicate c (48 : UInt8) = D at *
    clear hD
    generalize List.replicate c (48 : UInt8) = R at *
    go_wp2_with fail
    refine (HR.out _).mono ?_
    rintro e w3 ⟨rfl, hb3⟩
    have HB3 := Lib.hid (keepb HB2.out hb3)
    clear hb3
    go_wp2_with fail
    go_ret2
    exact ⟨by rw [HV.out] <;> rfl, HB3.out⟩
  by_cases a2 : 0 < x ∧ x ≤ 21
  · obtain ⟨c, rfl⟩ : ∃ c : Nat, x = (c : Int) := ⟨x.toNat, by omega⟩
    have f1 : decide ((d.length : Int) ≤ (c : Int)) = false := decide_eq_false (by omega)
    have f1' : decide (d.length ≤ c) = false := decide_eq_false (by omega)
    have f2 : decide (0 < (c : Int)) = true := decide_eq_true a2.1
    have f2' : decide (0 < c) = true := decide_eq_true (by omega)
    have f3 : decide ((c : Int) ≤ 21) = true := decide_eq_true a2.2
    have HV := Lib.hid (show tx = G ++ ((d.take c ++ [46]) ++ d.drop c) by rw [HTX.out, if_neg a1, if_pos a2]; rfl)
    have e1 := cut_take d c
    have e2 := cut_drop d c d.length rfl
    have l1 : ((d.take c).length : Int) ≤ 5000 := by rw [List.length_take]; omega
    have l2 : ((d.drop c).length : Int) ≤ 5000 := by rw [List.length_drop]; omega
    have hcl : (c : Int) ≤ (d.length : Int) := by omega
    have hc1 := sv_cat (d.take c) [46]
    have l3 : (((d.take c ++ [46] : List UInt8)).length : Int) ≤ 5001 := by rw [List.length_append]; simp only [List.length_singleton]; omega
    have hc2 := sv_cat (d.take c ++ [46]) (d.drop c)
    have l4 : (((d.take c ++ [46] ++ d.drop c : List UInt8)).length : Int) ≤ 10001 := by rw [List.length_append]; omega
    have hc3 := sv_cat G (d.take c ++ [46] ++ d.drop c)
    clear a1 a2 HTX hd1 hd2 hx2 hx3
    generalize hD : d.take c ++ [46] ++ d.drop c = D at *
    generalize hE : d.take c ++ [46] = E at *
    generalize d.take c = T at *
    generalize d.drop c = R at *
    clear hD hE
    go_upto_region 20 with fail
    go_quiet (fail)
    have HB3 := Lib.hid (below_drewN HB2.out nq)
    go_wp2_with fail
    go_ret2
    exact ⟨by rw [HV.out] <;> rfl, HB3.out⟩
  by_cases a3 : -6 < x ∧ x ≤ 0
  · have f1 : decide ((d.length : Int) ≤ x) = false := decide_eq_false (by omega)
    have f2 : decide (0 < x) = false := decide_eq_false (by omega)
    have f3 : decide (-6 < x) = true := decide_eq_true a3.1
    have f4 : decide (x ≤ 0) = true := decide_eq_true a3.2
    obtain ⟨c, hc⟩ : ∃ c : Nat, -x = (c : Int) := ⟨(-x).toNat, by omega⟩
    have f5 : IntKind.i64.wrap (-x) = (c : Int) := by rw [IntWalk.i64_in _ (by omega)]; exact hc
    have HR := Lib.hid (fun W => repeat_d c (by omega) W)
    have HV := Lib.hid (show tx = G ++ (([48, 46] ++ List.replicate c 48) ++ d) by rw [HTX.out, if_neg a1, if_neg a2, if_pos a3, hc]; rfl)
    have hRl : ((List.replicate c (48 : UInt8)).length : Int) ≤ 5000 := by rw [List.length_replicate]; omega
    have hc1 := sv_cat [48, 46] (List.replicate c 48)
    have l1 : ((([48, 46] ++ List.replicate c 48 : List UInt8)).length : Int) ≤ 5002 := by simp; omega
    have hc2 := sv_cat ([48, 46] ++ List.replicate c 48) d
    have l2 : ((([48, 46] ++ List.replicate c 48 ++ d : List UInt8)).length : Int) ≤ 10002 := by rw [List.length_append]; omega
    have hc3 := sv_cat G ([48, 46] ++ List.replicate c 48 ++ d)
    clear a1 a2 a3 hc HTX hd1 hd2 hx2 hx3
    generalize hD : [48, 46] ++ List.replicate c (48 : UInt8) ++ d = D at *
    generalize hE : [48, 46] ++ List.replicate c (48 : UInt8) = E at *
    generalize List.replicate c (48 : UInt8) = R at *
    clear hD hE
    go_wp2_with fail
    refine (HR.out _).mono ?_
    rintro e w3 ⟨rfl, hb3⟩
    have HB3 := Lib.hid (keepb HB2.out hb3)
    clear hb3
    go_wp2_with fail
    go_ret2
    exact ⟨by rw [HV.out] <;> rfl, HB3.out⟩
  have hi := itoa_len21 (x - 1) (by omega) (by omega)
  have f5 : IntKind.i64.wrap (x - 1) = x - 1 := IntWalk.i64_in _ (by omega)
  have HI := Lib.hid (fun W ht => itoa_d (x - 1) (by omega) (by omega) W ht)
  have HTB := Lib.hid (HTab.out.below HB2.out)
  have l0 : ((d.take 1).length : Int) ≤ 1 := by have := List.length_take_le 1 d; omega
  have l1 : ((d.drop 1).length : Int) ≤ 5000 := by rw [List.length_drop]; omega
  have e1 := cut_take d 1
  have e2 := cut_drop d 1 d.length rfl
  have hdl : (1 : Int) ≤ (d.length : Int) := by omega
  have hdl' : 1 ≤ d.length := by omega
  have HB8 : Hid (decide (0 < x) = !decide (x ≤ 0)) := Lib.hid (by by_cases h : 0 < x <;> simp [h] <;> omega)
  have hA1 : ((d.length : Int) ≤ x → ¬ x ≤ 21) := fun h h2 => a1 ⟨h, h2⟩
  have hv0 : tx = G ++ (((d.take 1 ++ (if 1 < d.length then 46 :: d.drop 1 else [])) ++ (if 0 < x then [101, 43] else [101])) ++ Lib.itoa (x - 1)) := by rw [HTX.out, if_neg a1, if_neg a2, if_neg a3]
  have hlen1 : (1 : Int) < (d.length : Int) ∨ d.length = 1 := by omega
  clear HTX
  generalize Lib.itoa (x - 1) = I at *
  generalize hT : d.take 1 = T at *
  generalize hR : d.drop 1 = R at *
  clear hT hR
  have hIl : (I.length : Int) ≤ 21 := by omega
  have hGl := hGI
  have HVV := Lib.hid hv0
  clear hv0
  obtain ⟨A1, hA1⟩ : ∃ A, A = G ++ T := ⟨_, rfl⟩
  obtain ⟨Pt, hPt⟩ : ∃ P : List UInt8, P = [46] ++ R := ⟨_, rfl⟩
  have b1 : (A1.length : Int) ≤ 2 := by rw [hA1, List.length_append]; omega
  have b2 : (Pt.length : Int) ≤ 5001 := by rw [hPt, List.length_append]; simp only [List.length_singleton]; omega
  have q1 := cat_as hA1
  have q2 := cat_as hPt
  have hcs : (21 < x ∧ (d.length : Int) ≤ x) ∨ (21 < x ∧ x < (d.length : Int)) ∨ x ≤ -6 := by omega
  clear HB8
  rcases hcs with x21 | x21 | x21
  · have g1 : decide ((d.length : Int) ≤ x) = true := decide_eq_true x21.2
    have g2 : decide (x ≤ 21) = false := decide_eq_false (by omega)
    have g3 : decide (0 < x) = true := decide_eq_true (by omega)
    have g4 : decide (-6 < x) = true := decide_eq_true (by omega)
    have g5 : decide (x ≤ 0) = false := decide_eq_false (by omega)
    rcases hlen1 with hl1 | hl1
    · have h1 : decide ((1 : Int) < (d.length : Int)) = true := decide_eq_true hl1
      have h1' : decide (1 < d.length) = true := decide_eq_true (by omega)
      obtain ⟨A2, hA2⟩ : ∃ A, A = A1 ++ Pt := ⟨_, rfl⟩
      have b3 : (A2.length : Int) ≤ 5003 := by rw [hA2, List.length_append]; omega
      have q3 := cat_as hA2
      obtain ⟨A3, hA3⟩ : ∃ A, A = A2 ++ [101] := ⟨_, rfl⟩
      have b4 : (A3.length : Int) ≤ 5004 := by rw [hA3, List.length_append]; simp only [List.length_singleton]; omega
      have q4 := cat_as hA3
      obtain ⟨A4, hA4⟩ : ∃ A, A = A3 ++ [43] := ⟨_, rfl⟩
      have b5 : (A4.length : Int) ≤ 5005 := by rw [hA4, List.length_append]; simp only [List.length_singleton]; omega
      have q5 := cat_as hA4
      obtain ⟨A5, hA5⟩ : ∃ A, A = A4 ++ I := ⟨_, rfl⟩
      have q6 := cat_as hA5
      have HV := Lib.hid (show tx = A5 by rw [HVV.out, if_pos (show 1 < d.length by omega), if_pos (show 0 < x by omega)]; rw [hA5, hA4, hA3, hA2, hPt, hA1]; simp)
      clear hA5 hA4 hA3 hA2 hPt hA1 hl1 x21 a1 a2 a3 hd1 hd2 hx2 hx3 hi hdl' HVV
      go_wp2_with fail
      refine (HI.out _ HTB.out).mono ?_
      rintro e w3 ⟨rfl, hb3⟩
      have HB3 := Lib.hid (keepb HB2.out hb3)
      clear hb3
      go_wp2_with fail
      go_ret2
      exact ⟨by rw [HV.out] <;> rfl, HB3.out⟩
    · have h1 : decide ((1 : Int) < (d.length : Int)) = false := decide_eq_false (by omega)
      have h1' : decide (1 < d.length) = false := decide_eq_false (by omega)
      obtain ⟨A3, hA3⟩ : ∃ A, A = A1 ++ [101] := ⟨_, rfl⟩
      have b4 : (A3.length : Int) ≤ 5004 := by rw [hA3, List.length_append]; simp only [List.length_singleton]; omega
      have q4 := cat_as hA3
      obtain ⟨A4, hA4⟩ : ∃ A, A = A3 ++ [43] := ⟨_, rfl⟩
      have b5 : (A4.length : Int) ≤ 5005 := by rw [hA4, List.length_append]; simp only [List.length_singleton]; omega
      have q5 := cat_as hA4
      obtain ⟨A5, hA5⟩ : ∃ A, A = A4 ++ I := ⟨_, rfl⟩
      have q6 := cat_as hA5
      have HV := Lib.hid (show tx = A5 by rw [HVV.out, if_neg (show ¬ 1 < d.length by omega), if_pos (show 0 < x by omega)]; rw [hA5, hA4, hA3, hA1]; simp)
      clear hA5 hA4 hA3 hPt hA1 hl1 x21 a1 a2 a3 hd1 hd2 hx2 hx3 hi hdl' HVV
      go_wp2_with fail
      refine (HI.out _ HTB.out).mono ?_
      rintro e w3 ⟨rfl, hb3⟩
      have HB3 := Lib.hid (keepb HB2.out hb3)
      clear hb3
      go_wp2_with fail
      go_ret2
      exact ⟨by rw [HV.out] <;> rfl, HB3.out⟩
  · have g1 : decide ((d.length : Int) ≤ x) = false := decide_eq_false (by omega)
    have g2 : decide (x ≤ 21) = false := decide_eq_false (by omega)
    have g3 : decide (0 < x) = true := decide_eq_true (by omega)
    have g4 : decide (-6 < x) = true := decide_eq_true (by omega)
    have g5 : decide (x ≤ 0) = false := decide_eq_false (by omega)
    rcases hlen1 with hl1 | hl1
    · have h1 : decide ((1 : Int) < (d.length : Int)) = true := decide_eq_true hl1
      have h1' : decide (1 < d.length) = true := decide_eq_true (by omega)
      obtain ⟨A2, hA2⟩ : ∃ A, A = A1 ++ Pt := ⟨_, rfl⟩
      have b3 : (A2.length : Int) ≤ 5003 := by rw [hA2, List.length_append]; omega
      have q3 := cat_as hA2
      obtain ⟨A3, hA3⟩ : ∃ A, A = A2 ++ [101] := ⟨_, rfl⟩
      have b4 : (A3.length : Int) ≤ 5004 := by rw [hA3, List.length_append]; simp only [List.length_singleton]; omega
      have q4 := cat_as hA3
      obtain ⟨A4, hA4⟩ : ∃ A, A = A3 ++ [43] := ⟨_, rfl⟩
      have b5 : (A4.length : Int) ≤ 5005 := by rw [hA4, List.length_append]; simp only [List.length_singleton]; omega
      have q5 := cat_as hA4
      obtain ⟨A5, hA5⟩ : ∃ A, A = A4 ++ I := ⟨_, rfl⟩
      have q6 := cat_as hA5
      have HV := Lib.hid (show tx = A5 by rw [HVV.out, if_pos (show 1 < d.length by omega), if_pos (show 0 < x by omega)]; rw [hA5, hA4, hA3, hA2, hPt, hA1]; simp)
      clear hA5 hA4 hA3 hA2 hPt hA1 hl1 x21 a1 a2 a3 hd1 hd2 hx2 hx3 hi hdl' HVV
      go_wp2_with fail
      refine (HI.out _ HTB.out).mono ?_
      rintro e w3 ⟨rfl, hb3⟩
      have HB3 := Lib.hid (keepb HB2.out hb3)
      clear hb3
      go_wp2_with fail
      go_ret2
      exact ⟨by rw [HV.out] <;> rfl, HB3.out⟩
    · have h1 : decide ((1 : Int) < (d.length : Int)) = false := decide_eq_false (by omega)
      have h1' : decide (1 < d.length) = false := decide_eq_false (by omega)
      obtain ⟨A3, hA3⟩ : ∃ A, A = A1 ++ [101] := ⟨_, rfl⟩
      have b4 : (A3.length : Int) ≤ 5004 := by rw [hA3, List.length_append]; simp only [List.length_singleton]; omega
      have q4 := cat_as hA3
      obtain ⟨A4, hA4⟩ : ∃ A, A = A3 ++ [43] := ⟨_, rfl⟩
      have b5 : (A4.length : Int) ≤ 5005 := by rw [hA4, List.length_append]; simp only [List.length_singleton]; omega
      have q5 := cat_as hA4
      obtain ⟨A5, hA5⟩ : ∃ A, A = A4 ++ I := ⟨_, rfl⟩
      have q6 := cat_as hA5
      have HV := Lib.hid (show tx = A5 by rw [HVV.out, if_neg (show ¬ 1 < d.length by omega), if_pos (show 0 < x by omega)]; rw [hA5, hA4, hA3, hA1]; simp)
      clear hA5 hA4 hA3 hPt hA1 hl1 x21 a1 a2 a3 hd1 hd2 hx2 hx3 hi hdl' HVV
      go_wp2_with fail
      refine (HI.out _ HTB.out).mono ?_
      rintro e w3 ⟨rfl, hb3⟩
      have HB3 := Lib.hid (keepb HB2.out hb3)
      clear hb3
      go_wp2_with fail
      go_ret2
      exact ⟨by rw [HV.out] <;> rfl, HB3.out⟩
  · have g1 : decide ((d.length : Int) ≤ x) = false := decide_eq_false (by omega)
    have g2 : decide (0 < x) = false := decide_eq_false (by omega)
    have g3 : decide (-6 < x) = false := decide_eq_false (by omega)
    rcases hlen1 with hl1 | hl1
    · have h1 : decide ((1 : Int) < (d.length : Int)) = true := decide_eq_true hl1
      have h1' : decide (1 < d.length) = true := decide_eq_true (by omega)
      obtain ⟨A2, hA2⟩ : ∃ A, A = A1 ++ Pt := ⟨_, rfl⟩
      have b3 : (A2.length : Int) ≤ 5003 := by rw [hA2, List.length_append]; omega
      have q3 := cat_as hA2
      obtain ⟨A3, hA3⟩ : ∃ A, A = A2 ++ [101] := ⟨_, rfl⟩
      have b4 : (A3.length : Int) ≤ 5004 := by rw [hA3, List.length_append]; simp only [List.length_singleton]; omega
      have q4 := cat_as hA3
      obtain ⟨A5, hA5⟩ : ∃ A, A = A3 ++ I := ⟨_, rfl⟩
      have q6 := cat_as hA5
      have HV := Lib.hid (show tx = A5 by rw [HVV.out, if_pos (show 1 < d.length by omega), if_neg (show ¬ 0 < x by omega)]; rw [hA5, hA3, hA2, hPt, hA1]; simp)
      clear hA5 hA3 hA2 hPt hA1 hl1 x21 a1 a2 a3 hd1 hd2 hx2 hx3 hi hdl' HVV
      go_wp2_with fail
      refine (HI.out _ HTB.out).mono ?_
      rintro e w3 ⟨rfl, hb3⟩
      have HB3 := Lib.hid (keepb HB2.out hb3)
      clear hb3
      go_wp2_with fail
      go_ret2
      exact ⟨by rw [HV.out] <;> rfl, HB3.out⟩
    · have h1 : decide ((1 : Int) < (d.length : Int)) = false := decide_eq_false (by omega)
      have h1' : decide (1 < d.length) = false := decide_eq_false (by omega)
      obtain ⟨A3, hA3⟩ : ∃ A, A = A1 ++ [101] := ⟨_, rfl⟩
      have b4 : (A3.length : Int) ≤ 5004 := by rw [hA3, List.length_append]; simp only [List.length_singleton]; omega
      have q4 := cat_as hA3
      obtain ⟨A5, hA5⟩ : ∃ A, A = A3 ++ I := ⟨_, rfl⟩
      have q6 := cat_as hA5
      have HV := Lib.hid (show tx = A5 by rw [HVV.out, if_neg (show ¬ 1 < d.length by omega), if_neg (show ¬ 0 < x by omega)]; rw [hA5, hA3, hA1]; simp)
      clear hA5 hA3 hPt hA1 hl1 x21 a1 a2 a3 hd1 hd2 hx2 hx3 hi hdl' HVV
      go_wp2_with fail
      refine (HI.out _ HTB.out).mono ?_
      rintro e w3 ⟨rfl, hb3⟩
      have HB3 := Lib.hid (keepb HB2.out hb3)
      clear hb3
      go_wp2_with fail
      go_ret2
      exact ⟨by rw [HV.out] <;> rfl, HB3.out⟩
end Go.Proofs.YtnajondbdeclmaaGreatDoor
