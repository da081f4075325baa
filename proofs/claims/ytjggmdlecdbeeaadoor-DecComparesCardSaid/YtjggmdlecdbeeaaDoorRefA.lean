/- The reference of decimals: the walks of digit, over, Wrong. -/
import Derived.Test.YtjggmdlecdbeeaaDoorDecN
import Derived.Test.YtjggmdlecdbeeaaDoorDecS
namespace Go.Proofs.YtjggmdlecdbeeaaDoor
open Go.RowKit
set_option linter.unusedSimpArgs false
set_option linter.unusedVariables false

set_option maxRecDepth 100000 in
theorem rdigit_any (s : List UInt8) (i : Nat) (w : World) (hs : s.length ≤ 140737488351300) (hi : i ≤ 140737488351400) :
    Calls Tryd.prog 38 #[sv s, .int .i64 (i : Int)] w fun e w' => e = .returned (.bool (dAt s i)) ∧ w = w' := by
  have hsI : ((s.length : Nat) : Int) ≤ 140737488351300 := by omega
  rcases Nat.lt_or_ge i s.length with h | h
  · have hd := dAt_get h
    have hb := bget s i h
    have u1 : decide (((i : Nat) : Int) < ((s.length : Nat) : Int)) = true := decide_eq_true (by omega)
    have u2 : decide (i < s.length) = true := decide_eq_true h
    have hI : ((i : Nat) : Int) < ((s.length : Nat) : Int) := by omega
    have hx : isD s[i] = (decide (48 ≤ bt s i) && decide (bt s i ≤ 57)) := by
      rw [show bt s i = s[i].toNat by rw [← hb]; rfl]
      unfold isD
      rw [Bool.eq_iff_iff]; simp
    rw [hx] at hd
    have HD := Lib.hid hd
    clear hd hx hs hi
    generalize bt s i = y at *
    by_cases h1 : 48 ≤ y
    · by_cases h2 : y ≤ 57
      · have t1 : decide ((48 : Int) ≤ (y : Int)) = true := decide_eq_true (by omega)
        have t2 : decide ((y : Int) ≤ 57) = true := decide_eq_true (by omega)
        have HV := Lib.hid (show dAt s i = true by rw [HD.out, decide_eq_true h1, decide_eq_true h2]; rfl)
        clear h1 h2
        unfold sv
        go_enter Tryd.func38, Tryd.ntmps38
        go_wp2_with fail
        go_ret
        exact ⟨by rw [HV.out] <;> rfl, rfl⟩
      · have t1 : decide ((48 : Int) ≤ (y : Int)) = true := decide_eq_true (by omega)
        have t2 : decide ((y : Int) ≤ 57) = false := decide_eq_false (by omega)
        have HV := Lib.hid (show dAt s i = false by rw [HD.out, decide_eq_true h1, decide_eq_false h2]; rfl)
        clear h1 h2
        unfold sv
        go_enter Tryd.func38, Tryd.ntmps38
        go_wp2_with fail
        go_ret
        exact ⟨by rw [HV.out] <;> rfl, rfl⟩
    · have t1 : decide ((48 : Int) ≤ (y : Int)) = false := decide_eq_false (by omega)
      have HV := Lib.hid (show dAt s i = false by rw [HD.out, decide_eq_false h1]; rfl)
      clear h1
      unfold sv
      go_enter Tryd.func38, Tryd.ntmps38
      go_wp2_with fail
      go_ret
      exact ⟨by rw [HV.out] <;> rfl, rfl⟩
  · have HV := Lib.hid (dAt_ge h)
    have u1 : decide (((i : Nat) : Int) < ((s.length : Nat) : Int)) = false := decide_eq_false (by omega)
    have u2 : decide (i < s.length) = false := decide_eq_false (by omega)
    clear h hs hi
    unfold sv
    go_enter Tryd.func38, Tryd.ntmps38
    go_wp2_with fail
    go_ret
    exact ⟨by rw [HV.out] <;> rfl, rfl⟩

set_option maxRecDepth 100000 in
theorem rover_any (s : List UInt8) (i : Nat) (w : World) (hs : s.length ≤ 140737488351300) (hi : i ≤ s.length) :
    Calls Tryd.prog 39 #[sv s, .int .i64 (i : Int)] w fun e w' => e = .returned (.int .i64 (ov s i : Nat)) ∧ w = w' := by
  have HS := Lib.hid hs
  have HI := Lib.hid hi
  have HOV := Lib.hid (ov_ge s i)
  have HOL := Lib.hid (ov_le hi)
  clear hs hi
  go_enter Tryd.func39, Tryd.ntmps39
  go_wp2_with fail
  go_loop [1] (fun x => ∃ k : Nat, x = .int .i64 (k : Int) ∧ i ≤ k ∧ k ≤ ov s i) (fun x => s.length - (intOf x).toNat)
  case atStart => exact ⟨i, rfl, Nat.le_refl _, HOV.out⟩
  case round =>
    obtain ⟨k, rfl, hk1, hk2⟩ := hrel
    have HK1 := Lib.hid hk1
    have HK2 := Lib.hid hk2
    have HD := Lib.hid (fun W => rdigit_any s k W HS.out (by have := HOL.out; have := HS.out; omega))
    have hkI : ((k : Nat) : Int) ≤ 140737488351300 := by have := HOL.out; have := HS.out; omega
    cases hd : dAt s k with
    | true =>
      rw [hd] at HD
      have hk3 : k + 1 ≤ ov s i := by
        rcases Nat.lt_or_ge k (ov s i) with h | h
        · exact h
        · have : k = ov s i := by omega
          rw [this, ov_end] at hd
          cases hd
      have HK3 := Lib.hid hk3
      clear hk1 hk2 hk3 hd
      go_wp2_with fail
      refine (HD.out _).mono ?_
      rintro e w1 ⟨rfl, rfl⟩
      go_wp2_with fail
      go_round
      case rel => exact ⟨k + 1, by go_num, by have := HK1.out; omega, HK3.out⟩
      case measure => have := HK3.out; have := HOL.out; simp [intOf]; omega
    | false =>
      rw [hd] at HD
      have hke : k = ov s i := by
        have h1 := ov_ov hk1 hk2
        rw [ov_no hd] at h1
        exact h1
      have HKE := Lib.hid hke
      clear hk1 hk2 hd hke
      go_wp2_with fail
      refine (HD.out _).mono ?_
      rintro e w1 ⟨rfl, rfl⟩
      go_wp2_with fail
      go_ret
      exact ⟨by rw [← HKE.out] <;> rfl, rfl⟩

/-- How a byte's test stands. -/
theorem ctest (s : List UInt8) (i : Nat) (c : UInt8) : (s.length ≤ i ∧ (s[i]? == some c) = false) ∨ (i < s.length ∧ (((bt s i : Nat) : Int) == ((c.toNat : Nat) : Int)) = (s[i]? == some c)) := by
  rcases Nat.lt_or_ge i s.length with h | h
  · exact .inr ⟨h, bt_is h c⟩
  · left; rw [List.getElem?_eq_none h]; exact ⟨h, rfl⟩
def rwrongV (s : List UInt8) : Int := match wrongP s with
  | some q => (q : Nat)
  | none => -1

set_option maxRecDepth 100000 in
set_option maxHeartbeats 4000000 in
theorem rwrong_any (s : List UInt8) (w : World) (hs : s.length ≤ 140737488351300) :
    Calls Tryd.prog 14 #[sv s] w fun e w' => e = .returned (.int .i64 (rwrongV s)) ∧ w = w' := by
  have hsI : ((s.length : Nat) : Int) ≤ 140737488351300 := by omega
  have HS := Lib.hid hs
  clear hs
  unfold sv
  go_enter Tryd.func14, Tryd.ntmps14
  go_upto_region 2 with fail
  obtain ⟨nb, hnb⟩ : ∃ nb, negP s = nb := ⟨_, rfl⟩
  have Hnb := Lib.hid hnb
  clear hnb
  go_cut [13] from 4 to 14 (fun s13 wx => s13 = .bool nb ∧ w = wx)
  case first =>
    rcases ctest s (0) 45 with ⟨h1, h2⟩ | ⟨h1, h2⟩
    · have u1 : decide ((0 : Int) < ((s.length : Nat) : Int)) = false := decide_eq_false (by omega)
      have u2 : decide (0 < s.length) = false := decide_eq_false (by omega)
      have HV := Lib.hid (show nb = false by rw [← Hnb.out]; exact h2)
      clear h2
      go_wp2_with fail
      go_meet
      exact ⟨by rw [HV.out], rfl⟩
    · have u1 : decide ((0 : Int) < ((s.length : Nat) : Int)) = true := decide_eq_true (by omega)
      have u2 : decide (0 < s.length) = true := decide_eq_true (by omega)
      have hb := bget s (0) h1
      have hI : (0 : Int) < ((s.length : Nat) : Int) := by omega
      have HV := Lib.hid (show nb = (s[0]? == some 45) from Hnb.out.symm)
      have h2 : (((bt s (0) : Nat) : Int) == 45) = (s[0]? == some 45) := h2
      generalize (s[0]? == some 45) = b at *
      go_wp2_with fail
      go_meet
      exact ⟨by rw [HV.out], rfl⟩
  case rest =>
  obtain ⟨rfl, rfl⟩ := hcut
  go_upto_if 13 with fail
  go_cut [3] from 14 to 16 (fun s3 wx => s3 = .int .i64 ((p0 s : Nat) : Int) ∧ w = wx)
  case first =>
    have hp0 : p0 s = if nb then 1 else 0 := by
      rw [← Hnb.out]
      unfold p0 negP
      simp only [beq_iff_eq]
    cases nb with
    | true =>
      have HV := Lib.hid (show p0 s = 1 by rw [hp0]; rfl)
      clear hp0
      go_wp2_with fail
      go_meet
      exact ⟨by rw [HV.out]; rfl, rfl⟩
    | false =>
      have HV := Lib.hid (show p0 s = 0 by rw [hp0]; rfl)
      clear hp0
      go_wp2_with fail
      go_meet
      exact ⟨by rw [HV.out]; rfl, rfl⟩
  case rest =>
  obtain ⟨rfl, rfl⟩ := hcut
  have HP0 := Lib.hid (p0_le (s := s))
  have HD0 := Lib.hid (fun W => rdigit_any s (p0 s) W HS.out (by have := HP0.out; have := HS.out; omega))
  have HW := Lib.hid (show wrongP s = if dAt s (p0 s) = false then some (p0 s) else if pt s = true ∧ dAt s (p1 s + 1) = false then some (p1 s + 1) else if hasE s = true ∧ dAt s (p3 s) = false then some (p3 s) else if p4 s < s.length then some (p4 s) else none from rfl)
  have HRW := Lib.hid (show rwrongV s = match wrongP s with | some q => ((q : Nat) : Int) | none => -1 from rfl)
  cases hd0 : dAt s (p0 s) with
  | false =>
    rw [hd0] at HD0
    have HV := Lib.hid (show rwrongV s = ((p0 s : Nat) : Int) by rw [HRW.out, HW.out, if_pos hd0])
    clear hd0
    go_wp2_with fail
    refine (HD0.out _).mono ?_
    rintro e w1 ⟨rfl, rfl⟩
    go_wp2_with fail
    go_ret
    exact ⟨by rw [HV.out] <;> rfl, rfl⟩
  | true =>
  have h0l := dAt_lt hd0
  have HW := Lib.hid (show wrongP s = if pt s = true ∧ dAt s (p1 s + 1) = false then some (p1 s + 1) else if hasE s = true ∧ dAt s (p3 s) = false then some (p3 s) else if p4 s < s.length then some (p4 s) else none by rw [HW.out, if_neg (by rw [hd0]; simp)])
  have hp0I : ((p0 s : Nat) : Int) < ((s.length : Nat) : Int) := by omega
  rw [hd0] at HD0
  have hb0 := bget s (p0 s) h0l
  have h48 : (((bt s (p0 s) : Nat) : Int) == 48) = (s[p0 s]? == some 48) := bt_is h0l 48
  have HR0 := Lib.hid (fun W => rover_any s (p0 s) W HS.out HP0.out)
  clear hd0
  go_wp2_with fail
  refine (HD0.out _).mono ?_
  rintro e w1 ⟨rfl, rfl⟩
  have H48 := Lib.hid (show p1 s = if (s[p0 s]? == some 48) = true then p0 s + 1 else ov s (p0 s) by unfold p1; simp only [beq_iff_eq])
  generalize (s[p0 s]? == some 48) = b0 at *
  go_upto_if 24 with fail
  go_cut [3] from 25 to 30 (fun s3 wx => s3 = .int .i64 ((p1 s : Nat) : Int) ∧ w = wx)
  case first =>
    cases b0 with
    | true =>
      have HV := Lib.hid (show p1 s = p0 s + 1 by rw [H48.out, if_pos rfl])
      go_wp2_with fail
      go_meet
      exact ⟨by rw [HV.out]; go_num, rfl⟩
    | false =>
      have HV := Lib.hid (show p1 s = ov s (p0 s) by rw [H48.out, if_neg (by simp)])
      go_wp2_with fail
      refine (HR0.out _).mono ?_
      rintro e w1 ⟨rfl, rfl⟩
      go_wp2_with fail
      go_meet
      exact ⟨by rw [HV.out], rfl⟩
  case rest =>
  obtain ⟨rfl, rfl⟩ := hcut
  clear hb0 h48 hp0I h0l
  have HP1 := Lib.hid (p1_le (s := s))
  have hp1I : ((p1 s : Nat) : Int) ≤ 140737488351300 := by have := HP1.out; omega
  go_upto_region 9 with fail
  obtain ⟨qt, hqt⟩ : ∃ qt, pt s = qt := ⟨_, rfl⟩
  have Hqt := Lib.hid hqt
  clear hqt
  go_cut [39] from 30 to 40 (fun s39 wx => s39 = .bool qt ∧ w = wx)
  case first =>
    rcases ctest s (p1 s) 46 with ⟨h1, h2⟩ | ⟨h1, h2⟩
    · have u1 : decide (((p1 s : Nat) : Int) < ((s.length : Nat) : Int)) = false := decide_eq_false (by omega)
      have u2 : decide (p1 s < s.length) = false := decide_eq_false (by omega)
      have HV := Lib.hid (show qt = false by rw [← Hqt.out]; exact h2)
      clear h2
      go_wp2_with fail
      go_meet
      exact ⟨by rw [HV.out], rfl⟩
    · have u1 : decide (((p1 s : Nat) : Int) < ((s.length : Nat) : Int)) = true := decide_eq_true (by omega)
      have u2 : decide (p1 s < s.length) = true := decide_eq_true (by omega)
      have hb := bget s (p1 s) h1
      have hI : ((p1 s : Nat) : Int) < ((s.length : Nat) : Int) := by omega
      have HV := Lib.hid (show qt = (s[p1 s]? == some 46) from Hqt.out.symm)
      have h2 : (((bt s (p1 s) : Nat) : Int) == 46) = (s[p1 s]? == some 46) := h2
      generalize (s[p1 s]? == some 46) = b at *
      go_wp2_with fail
      go_meet
      exact ⟨by rw [HV.out], rfl⟩
  case rest =>
  obtain ⟨rfl, rfl⟩ := hcut
  have HD1 := Lib.hid (fun W => rdigit_any s (p1 s + 1) W HS.out (by have := HP1.out; have := HS.out; omega))
  have HR1 := Lib.hid (fun W h => rover_any s (p1 s + 1) W HS.out h)
  have e1 : (((p1 s + 1 : Nat)) : Int) = ((p1 s : Nat) : Int) + 1 := by omega
  rw [e1] at HD1 HR1
  have HE1 := Lib.hid e1
  clear e1
  have hpt := Hqt.out
  cases qt with
  | true =>
    cases hd1 : dAt s (p1 s + 1) with
    | false =>
      rw [hd1] at HD1
      have HV := Lib.hid (show rwrongV s = ((p1 s : Nat) : Int) + 1 by rw [HRW.out, HW.out, if_pos ⟨hpt, hd1⟩]; exact HE1.out)
      clear hpt hd1
      go_wp2_with fail
      refine (HD1.out _).mono ?_
      rintro e w1 ⟨rfl, rfl⟩
      go_wp2_with fail
      go_ret
      exact ⟨by rw [HV.out] <;> rfl, rfl⟩
    | true =>
      rw [hd1] at HD1
      have HP2 := Lib.hid (show ((ov s (p1 s + 1) : Nat) : Int) = ((p2 s : Nat) : Int) by unfold p2; rw [if_pos hpt])
      have HW2 := Lib.hid (show wrongP s = if hasE s = true ∧ dAt s (p3 s) = false then some (p3 s) else if p4 s < s.length then some (p4 s) else none by rw [HW.out, if_neg (by rw [hd1]; simp)])
      have HL1 := Lib.hid (pt_lt hpt)
      clear hpt hd1
      go_wp2_with fail
      refine (HD1.out _).mono ?_
      rintro e w1 ⟨rfl, rfl⟩
      go_wp2_with fail
      refine (HR1.out _ HL1.out).mono ?_
      rintro e w1 ⟨rfl, rfl⟩
      rw [HP2.out]
      go_upto_region 13 with fail
      have HP2 := Lib.hid (p2_le (s := s))
      have hp2I : ((p2 s : Nat) : Int) ≤ 140737488351300 := by have := HP2.out; omega
      obtain ⟨qe, hqe⟩ : ∃ qe, hasE s = qe := ⟨_, rfl⟩
      have Hqe := Lib.hid hqe
      clear hqe
      go_cut [66] from 51 to 67 (fun s66 wx => s66 = .bool qe ∧ w = wx)
      case first =>
        rcases ctest s (p2 s) 101 with ⟨h1, h2⟩ | ⟨h1, h2⟩
        · have u1 : decide (((p2 s : Nat) : Int) < ((s.length : Nat) : Int)) = false := decide_eq_false (by omega)
          have u2 : decide (p2 s < s.length) = false := decide_eq_false (by omega)
          have HV := Lib.hid (show qe = false by
            rw [← Hqe.out]
            show (s[p2 s]? == some 101 || s[p2 s]? == some 69) = false
            rw [List.getElem?_eq_none h1]; rfl)
          clear h2
          go_wp2_with fail
          go_meet
          exact ⟨by rw [HV.out], rfl⟩
        · have u1 : decide (((p2 s : Nat) : Int) < ((s.length : Nat) : Int)) = true := decide_eq_true (by omega)
          have u2 : decide (p2 s < s.length) = true := decide_eq_true (by omega)
          have hb := bget s (p2 s) h1
          have hI : ((p2 s : Nat) : Int) < ((s.length : Nat) : Int) := by omega
          have h2 : (((bt s (p2 s) : Nat) : Int) == 101) = (s[p2 s]? == some 101) := h2
          have h3 : (((bt s (p2 s) : Nat) : Int) == 69) = (s[p2 s]? == some 69) := bt_is h1 69
          have HV := Lib.hid (show qe = (s[p2 s]? == some 101 || s[p2 s]? == some 69) from Hqe.out.symm)
          generalize (s[p2 s]? == some 101) = b at *
          generalize (s[p2 s]? == some 69) = b' at *
          cases b
          all_goals
            go_wp2_with fail
            go_meet
            exact ⟨by rw [HV.out]; rfl, rfl⟩
      case rest =>
      obtain ⟨rfl, rfl⟩ := hcut
      have hE := Hqe.out
      cases qe with
      | false =>
        have HP4 := Lib.hid (show p4 s = p2 s by unfold p4; rw [hE]; rfl)
        have HW3 := Lib.hid (show wrongP s = if p4 s < s.length then some (p4 s) else none by rw [HW2.out, if_neg (by rw [hE]; simp)])
        clear hE
        rw [← HP4.out]
        go_upto_region 20 with fail
        rcases Nat.lt_or_ge (p4 s) s.length with hlt | hge
        · have u1 : decide (((p4 s : Nat) : Int) < ((s.length : Nat) : Int)) = true := decide_eq_true (by omega)
          have u2 : decide (p4 s < s.length) = true := decide_eq_true hlt
          have HV := Lib.hid (show rwrongV s = ((p4 s : Nat) : Int) by rw [HRW.out, HW3.out, if_pos hlt])
          clear hlt
          go_wp2_with fail
          go_ret
          exact ⟨by rw [HV.out] <;> rfl, rfl⟩
        · have u1 : decide (((p4 s : Nat) : Int) < ((s.length : Nat) : Int)) = false := decide_eq_false (by omega)
          have u2 : decide (p4 s < s.length) = false := decide_eq_false (by omega)
          have HV := Lib.hid (show rwrongV s = -1 by rw [HRW.out, HW3.out, if_neg (by omega)])
          clear hge
          go_wp2_with fail
          go_ret
          exact ⟨by rw [HV.out] <;> rfl, rfl⟩
      | true =>
        have hl2 := hasE_lt hE
        have hl2I : ((p2 s : Nat) : Int) < ((s.length : Nat) : Int) := by omega
        have HE := Lib.hid hE
        have hnn : (((p2 s : Nat) : Int) + 1).toNat = p2 s + 1 := by omega
        clear hE hl2
        go_upto_region 15 with fail
        obtain ⟨qs, hqs⟩ : ∃ qs, sgn s = qs := ⟨_, rfl⟩
        have Hqs := Lib.hid hqs
        clear hqs
        go_cut [84] from 69 to 85 (fun s84 wx => s84 = .bool qs ∧ w = wx)
        case first =>
          rcases ctest s (p2 s + 1) 43 with ⟨h1, h2⟩ | ⟨h1, h2⟩
          · have u1 : decide (((p2 s : Nat) : Int) + 1 < ((s.length : Nat) : Int)) = false := decide_eq_false (by omega)
            have u2 : decide (p2 s + 1 < s.length) = false := decide_eq_false (by omega)
            have HV := Lib.hid (show qs = false by
              rw [← Hqs.out]
              show (s[p2 s + 1]? == some 43 || s[p2 s + 1]? == some 45) = false
              rw [List.getElem?_eq_none h1]; rfl)
            clear h2
            go_wp2_with fail
            go_meet
            exact ⟨by rw [HV.out], rfl⟩
          · have u1 : decide (((p2 s : Nat) : Int) + 1 < ((s.length : Nat) : Int)) = true := decide_eq_true (by omega)
            have u2 : decide (p2 s + 1 < s.length) = true := decide_eq_true (by omega)
            have hb := bget s (p2 s + 1) h1
            have hI : ((p2 s : Nat) : Int) + 1 < ((s.length : Nat) : Int) := by omega
            have h2 : (((bt s (p2 s + 1) : Nat) : Int) == 43) = (s[p2 s + 1]? == some 43) := h2
            have h3 : (((bt s (p2 s + 1) : Nat) : Int) == 45) = (s[p2 s + 1]? == some 45) := bt_is h1 45
            have HV := Lib.hid (show qs = (s[p2 s + 1]? == some 43 || s[p2 s + 1]? == some 45) from Hqs.out.symm)
            generalize (s[p2 s + 1]? == some 43) = b at *
            generalize (s[p2 s + 1]? == some 45) = b' at *
            cases b
            all_goals
              go_wp2_with fail
              go_meet
              exact ⟨by rw [HV.out]; rfl, rfl⟩
        case rest =>
        obtain ⟨rfl, rfl⟩ := hcut
        have HS3 := Lib.hid (show p3 s = if qs then p2 s + 2 else p2 s + 1 by unfold p3; rw [Hqs.out])
        clear hnn
        go_upto_if 84 with fail
        go_cut [3] from 85 to 87 (fun s3 wx => s3 = .int .i64 ((p3 s : Nat) : Int) ∧ w = wx)
        case first =>
          cases qs with
          | true =>
            have HV := Lib.hid (show p3 s = p2 s + 2 by rw [HS3.out]; rfl)
            go_wp2_with fail
            go_meet
            exact ⟨by rw [HV.out]; go_num, rfl⟩
          | false =>
            have HV := Lib.hid (show p3 s = p2 s + 1 by rw [HS3.out]; rfl)
            go_wp2_with fail
            go_meet
            exact ⟨by rw [HV.out]; go_num, rfl⟩
        case rest =>
        obtain ⟨rfl, rfl⟩ := hcut
        have HP3 := Lib.hid (p3_le HE.out)
        have HD3 := Lib.hid (fun W => rdigit_any s (p3 s) W HS.out (by have := HP3.out; have := HS.out; omega))
        have HR3 := Lib.hid (fun W => rover_any s (p3 s) W HS.out HP3.out)
        have HP4 := Lib.hid (show ov s (p3 s) = p4 s by unfold p4; rw [HE.out]; rfl)
        rw [HP4.out] at HR3
        clear hl2I
        cases hd3 : dAt s (p3 s) with
        | false =>
          rw [hd3] at HD3
          have HV := Lib.hid (show rwrongV s = ((p3 s : Nat) : Int) by rw [HRW.out, HW2.out, if_pos ⟨HE.out, hd3⟩])
          clear hd3
          go_wp2_with fail
          refine (HD3.out _).mono ?_
          rintro e w1 ⟨rfl, rfl⟩
          go_wp2_with fail
          go_ret
          exact ⟨by rw [HV.out] <;> rfl, rfl⟩
        | true =>
          rw [hd3] at HD3
          have HW3 := Lib.hid (show wrongP s = if p4 s < s.length then some (p4 s) else none by rw [HW2.out, if_neg (by rw [hd3]; simp)])
          clear hd3
          go_wp2_with fail
          refine (HD3.out _).mono ?_
          rintro e w1 ⟨rfl, rfl⟩
          go_wp2_with fail
          refine (HR3.out _).mono ?_
          rintro e w1 ⟨rfl, rfl⟩
          go_upto_region 20 with fail
          rcases Nat.lt_or_ge (p4 s) s.length with hlt | hge
          · have u1 : decide (((p4 s : Nat) : Int) < ((s.length : Nat) : Int)) = true := decide_eq_true (by omega)
            have u2 : decide (p4 s < s.length) = true := decide_eq_true hlt
            have HV := Lib.hid (show rwrongV s = ((p4 s : Nat) : Int) by rw [HRW.out, HW3.out, if_pos hlt])
            clear hlt
            go_wp2_with fail
            go_ret
            exact ⟨by rw [HV.out] <;> rfl, rfl⟩
          · have u1 : decide (((p4 s : Nat) : Int) < ((s.length : Nat) : Int)) = false := decide_eq_false (by omega)
            have u2 : decide (p4 s < s.length) = false := decide_eq_false (by omega)
            have HV := Lib.hid (show rwrongV s = -1 by rw [HRW.out, HW3.out, if_neg (by omega)])
            clear hge
            go_wp2_with fail
            go_ret
            exact ⟨by rw [HV.out] <;> rfl, rfl⟩
  | false =>
    have HP2 := Lib.hid (show p2 s = p1 s by unfold p2; rw [hpt]; rfl)
    have HW2 := Lib.hid (show wrongP s = if hasE s = true ∧ dAt s (p3 s) = false then some (p3 s) else if p4 s < s.length then some (p4 s) else none by rw [HW.out, if_neg (by rw [hpt]; simp)])
    clear hpt
    rw [← HP2.out]
    go_upto_region 13 with fail
    have HP2 := Lib.hid (p2_le (s := s))
    have hp2I : ((p2 s : Nat) : Int) ≤ 140737488351300 := by have := HP2.out; omega
    obtain ⟨qe, hqe⟩ : ∃ qe, hasE s = qe := ⟨_, rfl⟩
    have Hqe := Lib.hid hqe
    clear hqe
    go_cut [66] from 51 to 67 (fun s66 wx => s66 = .bool qe ∧ w = wx)
    case first =>
      rcases ctest s (p2 s) 101 with ⟨h1, h2⟩ | ⟨h1, h2⟩
      · have u1 : decide (((p2 s : Nat) : Int) < ((s.length : Nat) : Int)) = false := decide_eq_false (by omega)
        have u2 : decide (p2 s < s.length) = false := decide_eq_false (by omega)
        have HV := Lib.hid (show qe = false by
          rw [← Hqe.out]
          show (s[p2 s]? == some 101 || s[p2 s]? == some 69) = false
          rw [List.getElem?_eq_none h1]; rfl)
        clear h2
        go_wp2_with fail
        go_meet
        exact ⟨by rw [HV.out], rfl⟩
      · have u1 : decide (((p2 s : Nat) : Int) < ((s.length : Nat) : Int)) = true := decide_eq_true (by omega)
        have u2 : decide (p2 s < s.length) = true := decide_eq_true (by omega)
        have hb := bget s (p2 s) h1
        have hI : ((p2 s : Nat) : Int) < ((s.length : Nat) : Int) := by omega
        have h2 : (((bt s (p2 s) : Nat) : Int) == 101) = (s[p2 s]? == some 101) := h2
        have h3 : (((bt s (p2 s) : Nat) : Int) == 69) = (s[p2 s]? == some 69) := bt_is h1 69
        have HV := Lib.hid (show qe = (s[p2 s]? == some 101 || s[p2 s]? == some 69) from Hqe.out.symm)
        generalize (s[p2 s]? == some 101) = b at *
        generalize (s[p2 s]? == some 69) = b' at *
        cases b
        all_goals
          go_wp2_with fail
          go_meet
          exact ⟨by rw [HV.out]; rfl, rfl⟩
    case rest =>
    obtain ⟨rfl, rfl⟩ := hcut
    have hE := Hqe.out
    cases qe with
    | false =>
      have HP4 := Lib.hid (show p4 s = p2 s by unfold p4; rw [hE]; rfl)
      have HW3 := Lib.hid (show wrongP s = if p4 s < s.length then some (p4 s) else none by rw [HW2.out, if_neg (by rw [hE]; simp)])
      clear hE
      rw [← HP4.out]
      go_upto_region 20 with fail
      rcases Nat.lt_or_ge (p4 s) s.length with hlt | hge
      · have u1 : decide (((p4 s : Nat) : Int) < ((s.length : Nat) : Int)) = true := decide_eq_true (by omega)
        have u2 : decide (p4 s < s.length) = true := decide_eq_true hlt
        have HV := Lib.hid (show rwrongV s = ((p4 s : Nat) : Int) by rw [HRW.out, HW3.out, if_pos hlt])
        clear hlt
        go_wp2_with fail
        go_ret
        exact ⟨by rw [HV.out] <;> rfl, rfl⟩
      · have u1 : decide (((p4 s : Nat) : Int) < ((s.length : Nat) : Int)) = false := decide_eq_false (by omega)
        have u2 : decide (p4 s < s.length) = false := decide_eq_false (by omega)
        have HV := Lib.hid (show rwrongV s = -1 by rw [HRW.out, HW3.out, if_neg (by omega)])
        clear hge
        go_wp2_with fail
        go_ret
        exact ⟨by rw [HV.out] <;> rfl, rfl⟩
    | true =>
      have hl2 := hasE_lt hE
      have hl2I : ((p2 s : Nat) : Int) < ((s.length : Nat) : Int) := by omega
      have HE := Lib.hid hE
      have hnn : (((p2 s : Nat) : Int) + 1).toNat = p2 s + 1 := by omega
      clear hE hl2
      go_upto_region 15 with fail
      obtain ⟨qs, hqs⟩ : ∃ qs, sgn s = qs := ⟨_, rfl⟩
      have Hqs := Lib.hid hqs
      clear hqs
      go_cut [84] from 69 to 85 (fun s84 wx => s84 = .bool qs ∧ w = wx)
      case first =>
        rcases ctest s (p2 s + 1) 43 with ⟨h1, h2⟩ | ⟨h1, h2⟩
        · have u1 : decide (((p2 s : Nat) : Int) + 1 < ((s.length : Nat) : Int)) = false := decide_eq_false (by omega)
          have u2 : decide (p2 s + 1 < s.length) = false := decide_eq_false (by omega)
          have HV := Lib.hid (show qs = false by
            rw [← Hqs.out]
            show (s[p2 s + 1]? == some 43 || s[p2 s + 1]? == some 45) = false
            rw [List.getElem?_eq_none h1]; rfl)
          clear h2
          go_wp2_with fail
          go_meet
          exact ⟨by rw [HV.out], rfl⟩
        · have u1 : decide (((p2 s : Nat) : Int) + 1 < ((s.length : Nat) : Int)) = true := decide_eq_true (by omega)
          have u2 : decide (p2 s + 1 < s.length) = true := decide_eq_true (by omega)
          have hb := bget s (p2 s + 1) h1
          have hI : ((p2 s : Nat) : Int) + 1 < ((s.length : Nat) : Int) := by omega
          have h2 : (((bt s (p2 s + 1) : Nat) : Int) == 43) = (s[p2 s + 1]? == some 43) := h2
          have h3 : (((bt s (p2 s + 1) : Nat) : Int) == 45) = (s[p2 s + 1]? == some 45) := bt_is h1 45
          have HV := Lib.hid (show qs = (s[p2 s + 1]? == some 43 || s[p2 s + 1]? == some 45) from Hqs.out.symm)
          generalize (s[p2 s + 1]? == some 43) = b at *
          generalize (s[p2 s + 1]? == some 45) = b' at *
          cases b
          all_goals
            go_wp2_with fail
            go_meet
            exact ⟨by rw [HV.out]; rfl, rfl⟩
      case rest =>
      obtain ⟨rfl, rfl⟩ := hcut
      have HS3 := Lib.hid (show p3 s = if qs then p2 s + 2 else p2 s + 1 by unfold p3; rw [Hqs.out])
      clear hnn
      go_upto_if 84 with fail
      go_cut [3] from 85 to 87 (fun s3 wx => s3 = .int .i64 ((p3 s : Nat) : Int) ∧ w = wx)
      case first =>
        cases qs with
        | true =>
          have HV := Lib.hid (show p3 s = p2 s + 2 by rw [HS3.out]; rfl)
          go_wp2_with fail
          go_meet
          exact ⟨by rw [HV.out]; go_num, rfl⟩
        | false =>
          have HV := Lib.hid (show p3 s = p2 s + 1 by rw [HS3.out]; rfl)
          go_wp2_with fail
          go_meet
          exact ⟨by rw [HV.out]; go_num, rfl⟩
      case rest =>
      obtain ⟨rfl, rfl⟩ := hcut
      have HP3 := Lib.hid (p3_le HE.out)
      have HD3 := Lib.hid (fun W => rdigit_any s (p3 s) W HS.out (by have := HP3.out; have := HS.out; omega))
      have HR3 := Lib.hid (fun W => rover_any s (p3 s) W HS.out HP3.out)
      have HP4 := Lib.hid (show ov s (p3 s) = p4 s by unfold p4; rw [HE.out]; rfl)
      rw [HP4.out] at HR3
      clear hl2I
      cases hd3 : dAt s (p3 s) with
      | false =>
        rw [hd3] at HD3
        have HV := Lib.hid (show rwrongV s = ((p3 s : Nat) : Int) by rw [HRW.out, HW2.out, if_pos ⟨HE.out, hd3⟩])
        clear hd3
        go_wp2_with fail
        refine (HD3.out _).mono ?_
        rintro e w1 ⟨rfl, rfl⟩
        go_wp2_with fail
        go_ret
        exact ⟨by rw [HV.out] <;> rfl, rfl⟩
      | true =>
        rw [hd3] at HD3
        have HW3 := Lib.hid (show wrongP s = if p4 s < s.length then some (p4 s) else none by rw [HW2.out, if_neg (by rw [hd3]; simp)])
        clear hd3
        go_wp2_with fail
        refine (HD3.out _).mono ?_
        rintro e w1 ⟨rfl, rfl⟩
        go_wp2_with fail
        refine (HR3.out _).mono ?_
        rintro e w1 ⟨rfl, rfl⟩
        go_upto_region 20 with fail
        rcases Nat.lt_or_ge (p4 s) s.length with hlt | hge
        · have u1 : decide (((p4 s : Nat) : Int) < ((s.length : Nat) : Int)) = true := decide_eq_true (by omega)
          have u2 : decide (p4 s < s.length) = true := decide_eq_true hlt
          have HV := Lib.hid (show rwrongV s = ((p4 s : Nat) : Int) by rw [HRW.out, HW3.out, if_pos hlt])
          clear hlt
          go_wp2_with fail
          go_ret
          exact ⟨by rw [HV.out] <;> rfl, rfl⟩
        · have u1 : decide (((p4 s : Nat) : Int) < ((s.length : Nat) : Int)) = false := decide_eq_false (by omega)
          have u2 : decide (p4 s < s.length) = false := decide_eq_false (by omega)
          have HV := Lib.hid (show rwrongV s = -1 by rw [HRW.out, HW3.out, if_neg (by omega)])
          clear hge
          go_wp2_with fail
          go_ret
          exact ⟨by rw [HV.out] <;> rfl, rfl⟩
end Go.Proofs.YtjggmdlecdbeeaaDoor
