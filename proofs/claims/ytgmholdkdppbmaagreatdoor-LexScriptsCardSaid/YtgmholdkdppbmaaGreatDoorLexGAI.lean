/-
  Texts of the proof of 'LexG': LexRN, RefE, Rat, RefF.
-/
import Derived.Test.YtgmholdkdppbmaaGreatDoorLexGAD
import Derived.Test.YtgmholdkdppbmaaGreatDoorLexGAE
import Derived.Test.YtgmholdkdppbmaaGreatDoorLexGAF
import Derived.Test.YtgmholdkdppbmaaGreatDoorLexGAH
import Derived.Deep.CutBlock
set_option linter.unusedVariables false
set_option linter.unusedSimpArgs false
namespace Go.Proofs.YtgmholdkdppbmaaGreatDoor.Lx
open Go.RowKit
attribute [local go_sem ↓] Go.wp_at_zero Go.wp_at_succ
theorem dAt_drop (s:List UInt8) (i k:Nat):dAt (s.drop i) k = dAt s (i + k):=by unfold dAt;rw [List.getElem?_drop]
theorem ov_drop (s:List UInt8) (i k:Nat):i + ov (s.drop i) k = ov s (i + k):=by unfold ov;rw [List.drop_drop];omega
def numV (s:List UInt8) (i:Nat):Value:=.tuple #[.int .i64 (i + (numP (s.drop i)).1:Nat),.bool (numP (s.drop i)).2]
theorem numV_of {s:List UInt8} {i p q:Nat} {b:Bool} (h:numP (s.drop i) = (p,b)) (hq:i + p = q):numV s i = .tuple #[.int .i64 (q:Nat),.bool b]:=by
  unfold numV;rw [h];simp only [];rw [hq]
set_option maxRecDepth 100000 in
set_option maxHeartbeats 4000000 in
theorem rnum_any (s:List UInt8) (i:Nat) (w:World) (hi:i < s.length) (hs:s.length ≤ 1000000000000) :
    Calls Tryz.prog 44 #[sv s,.int .i64 (i:Nat)] w fun e w'=>e = .returned (numV s i) ∧ w = w':=by
  have hsI:((s.length:Nat):Int) ≤ 1000000000000:=by omega
  have HS:=Lib.hid (show s.length ≤ 140737488353000 by omega)
  obtain ⟨t,ht⟩:∃ t,s.drop i = t:=⟨_,rfl⟩
  have htl:t.length = s.length - i:=by rw [← ht,List.length_drop]
  obtain ⟨q0,hq0⟩:∃ q,i + p0 t = q:=⟨_,rfl⟩
  obtain ⟨q1,hq1⟩:∃ q,i + p1 t = q:=⟨_,rfl⟩
  obtain ⟨q2,hq2⟩:∃ q,i + p2 t = q:=⟨_,rfl⟩
  obtain ⟨q3,hq3⟩:∃ q,i + p3 t = q:=⟨_,rfl⟩
  obtain ⟨q1p,hq1p⟩:∃ q,q1 + 1 = q:=⟨_,rfl⟩
  obtain ⟨q2p,hq2p⟩:∃ q,q2 + 1 = q:=⟨_,rfl⟩
  obtain ⟨c,hc⟩:∃ c,s[i] = c:=⟨_,rfl⟩
  obtain ⟨nb,hnb⟩:∃ nb,decide (c = 45) = nb:=⟨_,rfl⟩
  obtain ⟨qt,hqt⟩:∃ qt,pt t = qt:=⟨_,rfl⟩
  obtain ⟨qe,hqe⟩:∃ qe,hasE t = qe:=⟨_,rfl⟩
  obtain ⟨qs,hqs⟩:∃ qs,sgn t = qs:=⟨_,rfl⟩
  have g (k:Nat):t[k]? = s[i + k]?:=by rw [← ht,List.getElem?_drop]
  have gd (k:Nat):dAt t k = dAt s (i + k):=by rw [← ht,dAt_drop]
  have gv (k:Nat):i + ov t k = ov s (i + k):=by rw [← ht,ov_drop]
  have l0:=p0_le (s:=t)
  have l1:=p1_le (s:=t)
  have l2:=p2_le (s:=t)
  have hN:numP t = if dAt s q0 = false then (p0 t,false) else if qt = true ∧ dAt s q1p = false then (p1 t + 1,false) else if qe = true ∧ dAt s q3 = false then (p3 t,false) else (p4 t,true):=by
    unfold numP
    rw [gd,gd,gd,hqt,hqe,hq0,← Nat.add_assoc,hq1,hq1p,hq3]
  have HN1:Hid (dAt s q0 = false → numV s i = .tuple #[.int .i64 (q0:Nat),.bool false]):=Lib.hid fun h=>by
    refine numV_of (p:=p0 t) ?_ hq0
    rw [ht,hN,if_pos h]
  have HN2:Hid (dAt s q0 = true → qt = true → dAt s q1p = false → numV s i = .tuple #[.int .i64 (q1p:Nat),.bool false]):=Lib.hid fun h h1 h2=>by
    refine numV_of (p:=p1 t + 1) ?_ (by omega)
    rw [ht,hN,if_neg (by rw [h];simp),if_pos ⟨h1,h2⟩]
  have HN:Hid (dAt s q0 = true → (qt = true → dAt s q1p = true) → numP t = if qe = true ∧ dAt s q3 = false then (p3 t,false) else (p4 t,true)):=Lib.hid fun h h1=>by
    rw [hN,if_neg (by rw [h];simp),if_neg]
    rintro ⟨a,b⟩
    rw [h1 a] at b
    cases b
  have HN3':Hid (dAt s q0 = true → (qt = true → dAt s q1p = true) → qe = false → numV s i = .tuple #[.int .i64 (q2:Nat),.bool true]):=Lib.hid fun h h1 h2=>by
    refine numV_of (p:=p4 t) ?_ ?_
    · rw [ht,HN.out h h1,if_neg (by rw [h2];simp)]
    · unfold p4;rw [hqe,h2];exact hq2
  have HN4':Hid (dAt s q0 = true → (qt = true → dAt s q1p = true) → qe = true → dAt s q3 = false → numV s i = .tuple #[.int .i64 (q3:Nat),.bool false]):=Lib.hid fun h h1 h2 h3=>by
    refine numV_of (p:=p3 t) ?_ hq3
    rw [ht,HN.out h h1,if_pos ⟨h2,h3⟩]
  have HN5':Hid (dAt s q0 = true → (qt = true → dAt s q1p = true) → qe = true → dAt s q3 = true → numV s i = .tuple #[.int .i64 (ov s q3:Nat),.bool true]):=Lib.hid fun h h1 h2 h3=>by
    refine numV_of (p:=p4 t) ?_ ?_
    · rw [ht,HN.out h h1,if_neg (by rw [h3];simp)]
    · unfold p4;rw [hqe,h2,if_pos rfl,gv,hq3]
  have hget:=get_c s i c hi hc
  have hiI:(i:Int) < (s.length:Int):=by omega
  have e45:=bit_byte c 45
  rw [hnb,show (((45:UInt8).toNat:Int)) = 45 from rfl] at e45
  have HQ0:Hid (q0 = if nb = true then i + 1 else i):=Lib.hid (by
    rw [← hq0,← hnb]
    unfold p0
    rw [g,Nat.add_zero,List.getElem?_eq_getElem hi,hc]
    by_cases h:c = 45
    · rw [h];rfl
    · rw [if_neg (by simpa using h),if_neg (by simpa using h)];rfl)
  have HB0:Hid (q0 ≤ s.length):=Lib.hid (by omega)
  have HQ1:Hid (q1 = if (s[q0]? == some 48) = true then q0 + 1 else ov s q0):=Lib.hid (by
    rw [← hq1]
    unfold p1
    rw [g,hq0]
    simp only [beq_iff_eq]
    split
    · rw [← Nat.add_assoc,hq0]
    · rw [gv,hq0])
  have HB1:Hid (q1 ≤ s.length):=Lib.hid (by omega)
  have HQT:Hid ((s[q1]? == some 46) = qt):=Lib.hid (by rw [← hqt];unfold pt;rw [g,hq1])
  have HQ2:Hid (q2 = if qt = true then ov s q1p else q1):=Lib.hid (by
    rw [← hq2]
    unfold p2
    rw [hqt]
    split
    · rw [gv,← Nat.add_assoc,hq1,hq1p]
    · exact hq1)
  have HB2:Hid (q2 ≤ s.length):=Lib.hid (by omega)
  have HQE:Hid ((s[q2]? == some 101 || s[q2]? == some 69) = qe):=Lib.hid (by rw [← hqe];unfold hasE;rw [g,hq2])
  have HQS:Hid ((s[q2p]? == some 43 || s[q2p]? == some 45) = qs):=Lib.hid (by rw [← hqs];unfold sgn;rw [g,← Nat.add_assoc,hq2,hq2p])
  have HQ3:Hid (q3 = if qs = true then q2p + 1 else q2p):=Lib.hid (by
    rw [← hq3]
    unfold p3
    rw [hqs]
    split <;> omega)
  have HB3:Hid (q3 ≤ 140737488353100):=Lib.hid (by
    have:=HQ3.out
    split at this <;> omega)
  have HP1:Hid (q1 + 1 = q1p):=Lib.hid hq1p
  have HP2:Hid (q2 + 1 = q2p):=Lib.hid hq2p
  have HD0:=Lib.hid (fun W=>ldigit_any s q0 W HS.out (by omega))
  have HD1:=Lib.hid (fun W=>ldigit_any s q1p W HS.out (by omega))
  have HR0:=Lib.hid (fun W=>lover_any s q0 W HS.out HB0.out)
  clear hq0 hq1 hq2 hq3 hqt hqe hqs hN g gd gv l0 l1 l2 htl hs hq1p hq2p hnb hc
  have HT:=Lib.hid ht
  clear ht
  unfold sv at *
  generalize numV s i = RES at *
  go_enter Tryz.func44,Tryz.ntmps44
  go_upto_if 9 with fail
  go_cut [1] from 10 to 12 (fun s1 wx=>s1 = .int .i64 ((q0:Nat):Int) ∧ w = wx)
  case first =>
    have h0:=HQ0.out
    cases nb with
    | true =>
      have e0:(i:Int) + 1 = (q0:Int):=by have h0:q0 = i + 1:=h0;omega
      clear h0
      go_wp2_with fail
      go_meet
      exact ⟨rfl,rfl⟩
    | false =>
      have HV:=Lib.hid (show q0 = i from h0)
      clear h0
      go_wp2_with fail
      go_meet
      exact ⟨by rw [HV.out],rfl⟩
  case rest =>
  obtain ⟨rfl,rfl⟩:=hcut
  clear hget e45 hiI
  cases hd0:dAt s q0 with
  | false =>
    rw [hd0] at HD0
    have HV:=Lib.hid (HN1.out hd0)
    clear hd0
    go_wp2_with fail
    refine (HD0.out _).mono ?_
    rintro e w1 ⟨rfl,rfl⟩
    go_wp2_with fail
    exact bodyPost_ret (v:=RES) (by rw [HV.out];simp [results,Tryz.results44,go_sem]) rfl ⟨rfl,rfl⟩
  | true =>
  have h0l:=dAt_lt hd0
  rw [hd0] at HD0
  have HN2:=Lib.hid (HN2.out hd0)
  have HN3':=Lib.hid (HN3'.out hd0)
  have HN4':=Lib.hid (HN4'.out hd0)
  have HN5':=Lib.hid (HN5'.out hd0)
  have hq0I:((q0:Nat):Int) < ((s.length:Nat):Int):=by omega
  have hb0:=bget s q0 h0l
  have h48:(((bt s q0:Nat):Int) == 48) = (s[q0]? == some 48):=bt_is h0l 48
  clear hd0
  go_wp2_with fail
  refine (HD0.out _).mono ?_
  rintro e w1 ⟨rfl,rfl⟩
  generalize (s[q0]? == some 48) = b0 at *
  go_upto_if 20 with fail
  go_cut [1] from 21 to 26 (fun s1 wx=>s1 = .int .i64 ((q1:Nat):Int) ∧ w = wx)
  case first =>
    cases b0 with
    | true =>
      have e1:(q0:Int) + 1 = (q1:Int):=by have h:q1 = q0 + 1:=HQ1.out;omega
      go_wp2_with fail
      go_meet
      exact ⟨rfl,rfl⟩
    | false =>
      have HV:=Lib.hid (show q1 = ov s q0 from HQ1.out)
      go_wp2_with fail
      refine (HR0.out _).mono ?_
      rintro e w1 ⟨rfl,rfl⟩
      go_wp2_with fail
      go_meet
      exact ⟨by rw [HV.out],rfl⟩
  case rest =>
  obtain ⟨rfl,rfl⟩:=hcut
  clear hb0 h48 hq0I h0l
  have hq1I:((q1:Nat):Int) ≤ 1000000000000:=by have:=HB1.out;omega
  have hq2I:((q2:Nat):Int) ≤ 1000000000000:=by have:=HB2.out;omega
  have e1:(q1:Int) + 1 = (q1p:Int):=by have:=HP1.out;omega
  have e2:(q2:Int) + 1 = (q2p:Int):=by have:=HP2.out;omega
  go_upto_region 8 with fail
  go_cut [35] from 26 to 36 (fun s9 wx=>s9 = .bool qt ∧ w = wx)
  case first =>
    rcases ctest s q1 46 with ⟨h1,h2⟩ | ⟨h1,h2⟩
    · have u1:decide (((q1:Nat):Int) < ((s.length:Nat):Int)) = false:=decide_eq_false (by omega)
      have u2:decide (q1 < s.length) = false:=decide_eq_false (by omega)
      have HV:=Lib.hid (show qt = false by rw [← HQT.out];exact h2)
      clear h2
      go_wp2_with fail
      go_meet
      exact ⟨by rw [HV.out],rfl⟩
    · have u1:decide (((q1:Nat):Int) < ((s.length:Nat):Int)) = true:=decide_eq_true (by omega)
      have u2:decide (q1 < s.length) = true:=decide_eq_true (by omega)
      have hb:=bget s q1 h1
      have hI:((q1:Nat):Int) < ((s.length:Nat):Int):=by omega
      have HV:=Lib.hid (show qt = (s[q1]? == some 46) from HQT.out.symm)
      have h2:(((bt s q1:Nat):Int) == 46) = (s[q1]? == some 46):=h2
      generalize (s[q1]? == some 46) = b at *
      go_wp2_with fail
      go_meet
      exact ⟨by rw [HV.out],rfl⟩
  case rest =>
  obtain ⟨rfl,rfl⟩:=hcut
  cases qt with
  | true =>
    cases hd1:dAt s q1p with
    | false =>
      rw [hd1] at HD1
      have HV:=Lib.hid (HN2.out rfl hd1)
      clear hd1
      go_wp2_with fail
      refine (HD1.out _).mono ?_
      rintro e w1 ⟨rfl,rfl⟩
      go_wp2_with fail
      exact bodyPost_ret (v:=RES) (by rw [HV.out];simp [results,Tryz.results44,go_sem]) rfl ⟨rfl,rfl⟩
    | true =>
    have hl1:=dAt_lt hd1
    rw [hd1] at HD1
    have HR1:=Lib.hid (fun W=>lover_any s q1p W HS.out (by omega))
    have HN3:=Lib.hid (HN3'.out fun _=>hd1)
    have HN4:=Lib.hid (HN4'.out fun _=>hd1)
    have HN5:=Lib.hid (HN5'.out fun _=>hd1)
    rw [show ov s q1p = q2 from HQ2.out.symm] at HR1
    clear hd1 hl1
    go_wp2_with fail
    refine (HD1.out _).mono ?_
    rintro e w1 ⟨rfl,rfl⟩
    go_wp2_with fail
    refine (HR1.out _).mono ?_
    rintro e w1 ⟨rfl,rfl⟩
    go_upto_region 13 with fail
    go_cut [61] from 46 to 62 (fun s9 wx=>s9 = .bool qe ∧ w = wx)
    case first =>
      rcases ctest s q2 101 with ⟨h1,h2⟩ | ⟨h1,h2⟩
      · have u1:decide (((q2:Nat):Int) < ((s.length:Nat):Int)) = false:=decide_eq_false (by omega)
        have u2:decide (q2 < s.length) = false:=decide_eq_false (by omega)
        have HV:=Lib.hid (show qe = false by
          rw [← HQE.out]
          show (s[q2]? == some 101 || s[q2]? == some 69) = false
          rw [List.getElem?_eq_none h1];rfl)
        clear h2
        go_wp2_with fail
        go_meet
        exact ⟨by rw [HV.out],rfl⟩
      · have u1:decide (((q2:Nat):Int) < ((s.length:Nat):Int)) = true:=decide_eq_true (by omega)
        have u2:decide (q2 < s.length) = true:=decide_eq_true (by omega)
        have hb:=bget s q2 h1
        have hI:((q2:Nat):Int) < ((s.length:Nat):Int):=by omega
        have h2:(((bt s q2:Nat):Int) == 101) = (s[q2]? == some 101):=h2
        have h3:(((bt s q2:Nat):Int) == 69) = (s[q2]? == some 69):=bt_is h1 69
        have HV:=Lib.hid (show qe = (s[q2]? == some 101 || s[q2]? == some 69) from HQE.out.symm)
        generalize (s[q2]? == some 101) = b at *
        generalize (s[q2]? == some 69) = b' at *
        cases b
        all_goals
          go_wp2_with fail
          go_meet
          exact ⟨by rw [HV.out];rfl,rfl⟩
    case rest =>
    obtain ⟨rfl,rfl⟩:=hcut
    have HD3:=Lib.hid (fun W=>ldigit_any s q3 W HS.out HB3.out)
    cases qe with
    | false =>
      have HV:=Lib.hid (HN3.out rfl)
      go_wp2_with fail
      exact bodyPost_ret (v:=RES) (by rw [HV.out];simp [results,Tryz.results44,go_sem]) rfl ⟨rfl,rfl⟩
    | true =>
    go_upto_region 15 with fail
    go_cut [79] from 64 to 80 (fun s9 wx=>s9 = .bool qs ∧ w = wx)
    case first =>
      rcases ctest s q2p 43 with ⟨h1,h2⟩ | ⟨h1,h2⟩
      · have u1:decide (((q2p:Nat):Int) < ((s.length:Nat):Int)) = false:=decide_eq_false (by omega)
        have u2:decide (q2p < s.length) = false:=decide_eq_false (by omega)
        have HV:=Lib.hid (show qs = false by
          rw [← HQS.out]
          show (s[q2p]? == some 43 || s[q2p]? == some 45) = false
          rw [List.getElem?_eq_none h1];rfl)
        clear h2
        go_wp2_with fail
        go_meet
        exact ⟨by rw [HV.out],rfl⟩
      · have u1:decide (((q2p:Nat):Int) < ((s.length:Nat):Int)) = true:=decide_eq_true (by omega)
        have u2:decide (q2p < s.length) = true:=decide_eq_true (by omega)
        have hb:=bget s q2p h1
        have hI:((q2p:Nat):Int) < ((s.length:Nat):Int):=by omega
        have h2:(((bt s q2p:Nat):Int) == 43) = (s[q2p]? == some 43):=h2
        have h3:(((bt s q2p:Nat):Int) == 45) = (s[q2p]? == some 45):=bt_is h1 45
        have HV:=Lib.hid (show qs = (s[q2p]? == some 43 || s[q2p]? == some 45) from HQS.out.symm)
        generalize (s[q2p]? == some 43) = b at *
        generalize (s[q2p]? == some 45) = b' at *
        cases b
        all_goals
          go_wp2_with fail
          go_meet
          exact ⟨by rw [HV.out];rfl,rfl⟩
    case rest =>
    obtain ⟨rfl,rfl⟩:=hcut
    go_upto_if 79 with fail
    go_cut [1] from 80 to 82 (fun s9 wx=>s9 = .int .i64 ((q3:Nat):Int) ∧ w = wx)
    case first =>
      have h3e:=HQ3.out
      cases qs with
      | true =>
        have e3:(q2p:Int) + 1 = (q3:Int):=by have h3e:q3 = q2p + 1:=h3e;omega
        clear h3e
        go_wp2_with fail
        go_meet
        exact ⟨rfl,rfl⟩
      | false =>
        have HV:=Lib.hid (show q3 = q2p from h3e)
        clear h3e
        go_wp2_with fail
        go_meet
        exact ⟨by rw [HV.out],rfl⟩
    case rest =>
    obtain ⟨rfl,rfl⟩:=hcut
    cases hd3:dAt s q3 with
    | false =>
      rw [hd3] at HD3
      have HV:=Lib.hid (HN4.out rfl hd3)
      clear hd3
      go_wp2_with fail
      refine (HD3.out _).mono ?_
      rintro e w1 ⟨rfl,rfl⟩
      go_wp2_with fail
      exact bodyPost_ret (v:=RES) (by rw [HV.out];simp [results,Tryz.results44,go_sem]) rfl ⟨rfl,rfl⟩
    | true =>
      rw [hd3] at HD3
      have h3l:=dAt_lt hd3
      have HR3:=Lib.hid (fun W=>lover_any s q3 W HS.out (by omega))
      have HV:=Lib.hid (HN5.out rfl hd3)
      clear hd3 h3l
      go_wp2_with fail
      refine (HD3.out _).mono ?_
      rintro e w1 ⟨rfl,rfl⟩
      go_wp2_with fail
      refine (HR3.out _).mono ?_
      rintro e w1 ⟨rfl,rfl⟩
      go_wp2_with fail
      exact bodyPost_ret (v:=RES) (by rw [HV.out];simp [results,Tryz.results44,go_sem]) rfl ⟨rfl,rfl⟩
  | false =>
    have HN3:=Lib.hid (HN3'.out fun h=>by cases h)
    have HN4:=Lib.hid (HN4'.out fun h=>by cases h)
    have HN5:=Lib.hid (HN5'.out fun h=>by cases h)
    obtain rfl:q2 = q1:=HQ2.out
    go_upto_region 13 with fail
    go_cut [61] from 46 to 62 (fun s9 wx=>s9 = .bool qe ∧ w = wx)
    case first =>
      rcases ctest s q2 101 with ⟨h1,h2⟩ | ⟨h1,h2⟩
      · have u1:decide (((q2:Nat):Int) < ((s.length:Nat):Int)) = false:=decide_eq_false (by omega)
        have u2:decide (q2 < s.length) = false:=decide_eq_false (by omega)
        have HV:=Lib.hid (show qe = false by
          rw [← HQE.out]
          show (s[q2]? == some 101 || s[q2]? == some 69) = false
          rw [List.getElem?_eq_none h1];rfl)
        clear h2
        go_wp2_with fail
        go_meet
        exact ⟨by rw [HV.out],rfl⟩
      · have u1:decide (((q2:Nat):Int) < ((s.length:Nat):Int)) = true:=decide_eq_true (by omega)
        have u2:decide (q2 < s.length) = true:=decide_eq_true (by omega)
        have hb:=bget s q2 h1
        have hI:((q2:Nat):Int) < ((s.length:Nat):Int):=by omega
        have h2:(((bt s q2:Nat):Int) == 101) = (s[q2]? == some 101):=h2
        have h3:(((bt s q2:Nat):Int) == 69) = (s[q2]? == some 69):=bt_is h1 69
        have HV:=Lib.hid (show qe = (s[q2]? == some 101 || s[q2]? == some 69) from HQE.out.symm)
        generalize (s[q2]? == some 101) = b at *
        generalize (s[q2]? == some 69) = b' at *
        cases b
        all_goals
          go_wp2_with fail
          go_meet
          exact ⟨by rw [HV.out];rfl,rfl⟩
    case rest =>
    obtain ⟨rfl,rfl⟩:=hcut
    have HD3:=Lib.hid (fun W=>ldigit_any s q3 W HS.out HB3.out)
    cases qe with
    | false =>
      have HV:=Lib.hid (HN3.out rfl)
      go_wp2_with fail
      exact bodyPost_ret (v:=RES) (by rw [HV.out];simp [results,Tryz.results44,go_sem]) rfl ⟨rfl,rfl⟩
    | true =>
    go_upto_region 15 with fail
    go_cut [79] from 64 to 80 (fun s9 wx=>s9 = .bool qs ∧ w = wx)
    case first =>
      rcases ctest s q2p 43 with ⟨h1,h2⟩ | ⟨h1,h2⟩
      · have u1:decide (((q2p:Nat):Int) < ((s.length:Nat):Int)) = false:=decide_eq_false (by omega)
        have u2:decide (q2p < s.length) = false:=decide_eq_false (by omega)
        have HV:=Lib.hid (show qs = false by
          rw [← HQS.out]
          show (s[q2p]? == some 43 || s[q2p]? == some 45) = false
          rw [List.getElem?_eq_none h1];rfl)
        clear h2
        go_wp2_with fail
        go_meet
        exact ⟨by rw [HV.out],rfl⟩
      · have u1:decide (((q2p:Nat):Int) < ((s.length:Nat):Int)) = true:=decide_eq_true (by omega)
        have u2:decide (q2p < s.length) = true:=decide_eq_true (by omega)
        have hb:=bget s q2p h1
        have hI:((q2p:Nat):Int) < ((s.length:Nat):Int):=by omega
        have h2:(((bt s q2p:Nat):Int) == 43) = (s[q2p]? == some 43):=h2
        have h3:(((bt s q2p:Nat):Int) == 45) = (s[q2p]? == some 45):=bt_is h1 45
        have HV:=Lib.hid (show qs = (s[q2p]? == some 43 || s[q2p]? == some 45) from HQS.out.symm)
        generalize (s[q2p]? == some 43) = b at *
        generalize (s[q2p]? == some 45) = b' at *
        cases b
        all_goals
          go_wp2_with fail
          go_meet
          exact ⟨by rw [HV.out];rfl,rfl⟩
    case rest =>
    obtain ⟨rfl,rfl⟩:=hcut
    go_upto_if 79 with fail
    go_cut [1] from 80 to 82 (fun s9 wx=>s9 = .int .i64 ((q3:Nat):Int) ∧ w = wx)
    case first =>
      have h3e:=HQ3.out
      cases qs with
      | true =>
        have e3:(q2p:Int) + 1 = (q3:Int):=by have h3e:q3 = q2p + 1:=h3e;omega
        clear h3e
        go_wp2_with fail
        go_meet
        exact ⟨rfl,rfl⟩
      | false =>
        have HV:=Lib.hid (show q3 = q2p from h3e)
        clear h3e
        go_wp2_with fail
        go_meet
        exact ⟨by rw [HV.out],rfl⟩
    case rest =>
    obtain ⟨rfl,rfl⟩:=hcut
    cases hd3:dAt s q3 with
    | false =>
      rw [hd3] at HD3
      have HV:=Lib.hid (HN4.out rfl hd3)
      clear hd3
      go_wp2_with fail
      refine (HD3.out _).mono ?_
      rintro e w1 ⟨rfl,rfl⟩
      go_wp2_with fail
      exact bodyPost_ret (v:=RES) (by rw [HV.out];simp [results,Tryz.results44,go_sem]) rfl ⟨rfl,rfl⟩
    | true =>
      rw [hd3] at HD3
      have h3l:=dAt_lt hd3
      have HR3:=Lib.hid (fun W=>lover_any s q3 W HS.out (by omega))
      have HV:=Lib.hid (HN5.out rfl hd3)
      clear hd3 h3l
      go_wp2_with fail
      refine (HD3.out _).mono ?_
      rintro e w1 ⟨rfl,rfl⟩
      go_wp2_with fail
      refine (HR3.out _).mono ?_
      rintro e w1 ⟨rfl,rfl⟩
      go_wp2_with fail
      exact bodyPost_ret (v:=RES) (by rw [HV.out];simp [results,Tryz.results44,go_sem]) rfl ⟨rfl,rfl⟩
end Go.Proofs.YtgmholdkdppbmaaGreatDoor.Lx

namespace Go.Proofs.YtgmholdkdppbmaaGreatDoor
open Go.RowKit
theorem valid_hasE {r:List UInt8} (h:wrongP r = none):hasE r = decide (p2 r < r.length):=by
  cases he:hasE r with
  | true=>rw [decide_eq_true (hasE_lt he)]
  | false =>
    have h4:p4 r = p2 r:=by unfold p4;rw [he];rfl
    have:=(valid_e h).2
    rw [decide_eq_false (by omega)]
theorem cutL_full (s:List UInt8) (i k:Nat) (h:k ≤ s.length) (hik:i ≤ k):(cutL s i k).length = k - i:=by
  unfold cutL;rw [List.length_take,List.length_drop];omega
theorem behind_len (r:List UInt8):((behindP r).length:Int) = (p2 r:Int) - (p1 r:Int) - (if pt r then 1 else 0):=by
  unfold behindP
  cases h:pt r with
  | true =>
    simp only [if_true]
    have h2:=p2_le (s:=r)
    have h3:p1 r + 1 ≤ p2 r:=by unfold p2;rw [h];exact ov_ge _ _
    rw [cutL_full _ _ _ h2 h3]
    omega
  | false =>
    have:p2 r = p1 r:=by unfold p2;rw [h];rfl
    simp [this]
theorem expP_at {r:List UInt8} (he:hasE r = true) (k:Nat) (h1:p3 r ≤ k) (h2:k < p4 r):bt (expP r) (k - p3 r) = bt r k ∧ k - p3 r < (expP r).length:=by
  have hle:=p4_le (s:=r)
  have hx:expP r = cutL r (p3 r) (p4 r):=by unfold expP;rw [he];rfl
  have hl:=cutL_full r (p3 r) (p4 r) hle (by omega)
  refine ⟨?_,by rw [hx,hl];omega⟩
  unfold bt
  rw [hx]
  congr 1
  unfold cutL
  rw [List.getD_eq_getElem?_getD,List.getD_eq_getElem?_getD,List.getElem?_take,if_pos (by omega),List.getElem?_drop,show p3 r + (k - p3 r) = k by omega]
set_option maxRecDepth 100000 in
set_option maxHeartbeats 8000000 in
theorem rbare_any (s:List UInt8) (w:World) (hs:s.length ≤ 140737488353000) (hq:wrongP s = none) :
    Calls Tryz.prog 60 #[sv s] w fun e w'=>e = .returned (decV (bareP s)) ∧ Below w.heap.size w w':=by
  have hB:=bodyL_ok hq
  have hs0:0 < s.length:=by
    have h1:=dAt_lt hB.d0
    have:=hB.le
    omega
  have HNEG:=Lib.hid (show negP s = true → (⟨s.toArray⟩:ByteArray).extract 1 s.length = ⟨(bodyL s).toArray⟩ from fun h=>by
    have e:=hB.neg h
    rw [ext_cut]
    unfold cutL
    generalize bodyL s = r at *
    rw [e,List.drop_one,List.tail_cons,List.take_of_length_le (by simp)])
  have HPOS:=Lib.hid (show negP s = false → (⟨s.toArray⟩:ByteArray) = ⟨(bodyL s).toArray⟩ from fun h=>by rw [← hB.pos h])
  have hrl:(bodyL s).length ≤ 140737488353000:=Nat.le_trans hB.le hs
  have hbare:=hB.bare
  have hb0:=bget s 0 hs0
  have ht0:(((bt s 0:Nat):Int) == 45) = negP s:=bt_is hs0 45
  have hsI:((s.length:Nat):Int) ≤ 140737488353000:=by omega
  have hs0I:(0:Int) < ((s.length:Nat):Int):=by omega
  have hs1I:(1:Int) ≤ ((s.length:Nat):Int):=by omega
  have hok:=hB.ok
  have hp0:=hB.p0
  have hi1:=hB.i1
  rw [hbare]
  clear hbare hB hq hs
  generalize negP s = g at *
  generalize bodyL s = r at *
  have HB0:=Lib.hid (((Below.refl _ w).alloc (Nat.le_refl _) (.cells #[.bool false,.string ⟨#[]⟩,.int .i64 0] 134)).alloc (by simp) (.cells #[.bool false,.string ⟨#[]⟩,.int .i64 0] 134))
  have HK0:=Lib.hid ((Blk.new w 134 #[.bool false,.string ⟨#[]⟩,.int .i64 0]).alloc (.cells #[.bool false,.string ⟨#[]⟩,.int .i64 0] 134))
  have HJ0:=Lib.hid (Blk.new2 w 134 #[.bool false,.string ⟨#[]⟩,.int .i64 0] (.cells #[.bool false,.string ⟨#[]⟩,.int .i64 0] 134))
  have HOK:=Lib.hid hok
  have HP0:=Lib.hid hp0
  have HI1:=Lib.hid hi1
  have HRL:=Lib.hid hrl
  clear hok hp0 hi1 hrl
  obtain ⟨E,hE⟩:∃ E:Int,((if underP r then -(capE (expP r):Int) else (capE (expP r):Int)) - (behindP r).length) = E:=⟨_,rfl⟩
  rw [hE]
  have HEE:=Lib.hid hE
  clear hE
  obtain ⟨sd,hsd⟩:∃ sd,stripD (g,wholeP r ++ behindP r,E) = sd:=⟨_,rfl⟩
  rw [hsd]
  have HSD:=Lib.hid hsd
  clear hsd
  obtain ⟨sd0,sd1,sd2⟩:=sd
  unfold decV sv
  generalize hW0:((w.alloc (.cells #[.bool false,.string ⟨#[]⟩,.int .i64 0] 134)).alloc (.cells #[.bool false,.string ⟨#[]⟩,.int .i64 0] 134)) = W0 at *
  go_enter Tryz.func60,Tryz.ntmps60
  go_upto_if 11 with fail
  clear hW0
  go_cut [0] from 12 to 15 (fun s0 wx=>s0 = .string ⟨r.toArray⟩ ∧ Blk wx w.heap.size 134 #[.bool false,.string ⟨#[]⟩,.int .i64 0] ∧ Blk wx (w.heap.size + 1) 134 #[.bool g,.string ⟨#[]⟩,.int .i64 0] ∧ Below w.heap.size w wx)
  case first =>
    cases g with
    | true =>
      have hx:=HNEG.out rfl
      obtain ⟨c0,c1,c2,f0,f1,f2⟩:=HJ0.out.three
      go_wp2_with fail
      go_meet
      exact ⟨rfl,HK0.out.far (p:=⟨w.heap.size + 1,0,none⟩) (by simp) _,HJ0.out.set1 0 _,HB0.out.setCell (p:=⟨w.heap.size + 1,0,none⟩) (by simp) _⟩
    | false =>
      have HX:=Lib.hid (HPOS.out rfl)
      go_wp2_with fail
      go_meet
      exact ⟨by rw [HX.out],HK0.out,HJ0.out,HB0.out⟩
  case rest =>
  obtain ⟨rfl,hk,hj,hb⟩:=hcut
  have HK:=Lib.hid hk
  have HJ:=Lib.hid hj
  have HB:=Lib.hid hb
  clear hk hj hb hb0 ht0 hs0I hs1I hsI hs0 HNEG HPOS
  have hrI:((r.length:Nat):Int) ≤ 140737488353000:=by have:=HRL.out;omega
  have HO:=Lib.hid (fun W=>rover_any r 0 W HRL.out (Nat.zero_le _))
  rw [HI1.out] at HO
  have e0:((0:Nat):Int) = 0:=rfl
  rw [e0] at HO
  clear e0
  have HP1:=Lib.hid (p1_le (s:=r))
  have hx1:(⟨r.toArray⟩:ByteArray).extract 0 (p1 r) = ⟨(wholeP r).toArray⟩:=by rw [ext_cut];unfold wholeP;rw [HP0.out]
  have hp1I:((p1 r:Nat):Int) ≤ ((r.length:Nat):Int):=by have:=HP1.out;omega
  have hp1J:((p1 r:Nat):Int) ≤ 140737488353000:=by omega
  go_wp2_with fail
  refine (HO.out _).mono ?_
  rintro e w1 ⟨rfl,rfl⟩
  go_upto_region 7 with fail
  clear hx1
  obtain ⟨qt,hqt⟩:∃ qt,pt r = qt:=⟨_,rfl⟩
  have Hqt:=Lib.hid hqt
  clear hqt
  go_cut [29] from 20 to 30 (fun s29 wx=>s29 = .bool qt ∧ Blk wx w.heap.size 134 #[.bool false,.string ⟨#[]⟩,.int .i64 0] ∧ Blk wx (w.heap.size + 1) 134 #[.bool g,.string ⟨#[]⟩,.int .i64 0] ∧ Below w.heap.size w wx)
  case first =>
    rcases ctest r (p1 r) 46 with ⟨h1,h2⟩ | ⟨h1,h2⟩
    · have u1:decide (((p1 r:Nat):Int) < ((r.length:Nat):Int)) = false:=decide_eq_false (by omega)
      have u2:decide (p1 r < r.length) = false:=decide_eq_false (by omega)
      have HV:=Lib.hid (show qt = false by rw [← Hqt.out];exact h2)
      clear h2
      go_wp2_with fail
      go_meet
      exact ⟨by rw [HV.out],HK.out,HJ.out,HB.out⟩
    · have u1:decide (((p1 r:Nat):Int) < ((r.length:Nat):Int)) = true:=decide_eq_true (by omega)
      have u2:decide (p1 r < r.length) = true:=decide_eq_true (by omega)
      have hb:=bget r (p1 r) h1
      have hI:((p1 r:Nat):Int) < ((r.length:Nat):Int):=by omega
      have HV:=Lib.hid (show qt = (r[p1 r]? == some 46) from Hqt.out.symm)
      have h2:(((bt r (p1 r):Nat):Int) == 46) = (r[p1 r]? == some 46):=h2
      generalize (r[p1 r]? == some 46) = b at *
      go_wp2_with fail
      go_meet
      exact ⟨by rw [HV.out],HK.out,HJ.out,HB.out⟩
  case rest =>
  obtain ⟨rfl,hk,hj,hb⟩:=hcut
  have HK:=Lib.hid hk
  have HJ:=Lib.hid hj
  have HB:=Lib.hid hb
  clear hk hj hb
  have HP2:=Lib.hid (p2_le (s:=r))
  have HBL:=Lib.hid (behind_len r)
  go_upto_if 29 with fail
  go_cut [4,5,6] from 30 to 48 (fun s4 s5 s6 wx=>s4 = .int .i64 ((p2 r:Nat):Int) ∧ s5 = .string ⟨(wholeP r ++ behindP r).toArray⟩ ∧ Blk wx w.heap.size 134 #[.bool false,.string ⟨#[]⟩,.int .i64 0] ∧ Blk wx (w.heap.size + 1) 134 #[.bool g,.string ⟨#[]⟩,.int .i64 (-((behindP r).length:Int))] ∧ Below w.heap.size w wx)
  case first =>
    have hqt:=Hqt.out
    cases qt with
    | true =>
      have h1:p1 r + 1 ≤ r.length:=pt_lt hqt
      have HO2:=Lib.hid (fun W=>rover_any r (p1 r + 1) W HRL.out h1)
      have hp2e:ov r (p1 r + 1) = p2 r:=by unfold p2;rw [hqt];rfl
      have hk12:p1 r + 1 ≤ p2 r:=by rw [← hp2e];exact ov_ge _ _
      rw [hp2e] at HO2
      have e1:(((p1 r + 1:Nat)):Int) = ((p1 r:Nat):Int) + 1:=by omega
      rw [e1] at HO2
      have hp2I:((p2 r:Nat):Int) ≤ ((r.length:Nat):Int):=by have:=HP2.out;omega
      have hp2J:((p2 r:Nat):Int) ≤ 140737488353000:=by omega
      have hpp:((p1 r:Nat):Int) + 1 ≤ ((p2 r:Nat):Int):=by omega
      have hx2:(⟨r.toArray⟩:ByteArray).extract (p1 r + 1) (p2 r) = ⟨(behindP r).toArray⟩:=by rw [ext_cut];unfold behindP;rw [hqt];rfl
      have hnn:(((p1 r:Nat):Int) + 1).toNat = p1 r + 1:=by omega
      have hcat:=sv_cat (wholeP r) (behindP r)
      have hbl:((behindP r).length:Int) = ((p2 r:Nat):Int) - ((p1 r:Nat):Int) - 1:=by have:=HBL.out;rw [hqt] at this;simpa using this
      have kq1:IntKind.i64.wrap (((p2 r:Nat):Int) - ((p1 r:Nat):Int)) = ((behindP r).length:Int) + 1:=by rw [IntWalk.i64_in _ (by omega)];omega
      have kq2:((p2 r:Nat):Int) - ((p1 r:Nat):Int) = ((behindP r).length:Int) + 1:=by omega
      have hlen:(wholeP r).length + (behindP r).length ≤ 140737488353000:=by have:=(parts_len r).1;have:=HRL.out;omega
      have hlI:((wholeP r).length:Int) + ((behindP r).length:Int) ≤ 140737488353000:=by omega
      have hbI:((behindP r).length:Int) ≤ 140737488353000:=by omega
      obtain ⟨c0,c1,c2,f0,f1,f2⟩:=HJ.out.three
      clear e1 hbl hqt hp2e hk12 h1
      generalize behindP r = B at *
      generalize wholeP r = A at *
      go_wp2_with fail
      refine (HO2.out _).mono ?_
      rintro e w1 ⟨rfl,rfl⟩
      go_wp2_with fail
      go_meet
      exact ⟨rfl,rfl,HK.out.far (p:=⟨w.heap.size + 1,2,none⟩) (by simp) _,HJ.out.set1 2 _,HB.out.setCell (p:=⟨w.heap.size + 1,2,none⟩) (by simp) _⟩
    | false =>
      have HV:=Lib.hid (show p2 r = p1 r by unfold p2;rw [hqt];rfl)
      have HV2:=Lib.hid (show behindP r = [] by unfold behindP;rw [hqt];rfl)
      clear hqt
      go_wp2_with fail
      go_meet
      exact ⟨by rw [HV.out],by rw [HV2.out,List.append_nil],HK.out,by rw [HV2.out];exact HJ.out,HB.out⟩
  case rest =>
  obtain ⟨rfl,rfl,hk,hj,hb⟩:=hcut
  have HK:=Lib.hid hk
  have HJ:=Lib.hid hj
  have HB:=Lib.hid hb
  clear hk hj hb hp1I hp1J
  have hp2I:((p2 r:Nat):Int) ≤ ((r.length:Nat):Int):=by have:=HP2.out;omega
  have hp2J:((p2 r:Nat):Int) ≤ 140737488353000:=by omega
  have HBL2:=Lib.hid (show (behindP r).length ≤ 140737488353000 by have:=(parts_len r).1;have:=HRL.out;omega)
  have HWL:=Lib.hid (show (wholeP r ++ behindP r).length ≤ 140737488353000 by rw [List.length_append];have:=(parts_len r).1;have:=HRL.out;omega)
  obtain ⟨qe,hqe⟩:∃ qe,hasE r = qe:=⟨_,rfl⟩
  have hve:=valid_hasE HOK.out
  rw [hqe] at hve
  have u2:decide (p2 r < r.length) = qe:=hve.symm
  have u1:decide (((p2 r:Nat):Int) < ((r.length:Nat):Int)) = qe:=by rw [hve,Bool.eq_iff_iff,decide_eq_true_eq,decide_eq_true_eq];omega
  have Hqe:=Lib.hid hqe
  clear hqe hve
  go_upto_if 51 with fail
  clear u1 u2
  go_cut [52] from 52 to 90 (fun s52 wx=>Blk wx w.heap.size 134 #[.bool false,.string ⟨#[]⟩,.int .i64 0] ∧ Blk wx (w.heap.size + 1) 134 #[.bool g,.string ⟨#[]⟩,.int .i64 E] ∧ Below w.heap.size w wx)
  case first =>
    cases qe with
    | false =>
      have HV1:=Lib.hid (show underP r = false by unfold underP;rw [Hqe.out];rfl)
      have HV2:=Lib.hid (show expP r = [] by unfold expP;rw [Hqe.out];rfl)
      go_wp2_with fail
      go_meet
      refine ⟨HK.out,?_,HB.out⟩
      have hEE:=HEE.out
      rw [HV1.out,HV2.out] at hEE
      have:((if false = true then -(capE []:Int) else (capE []:Int)) - ((behindP r).length:Int)) = -((behindP r).length:Int):=by
        have hc:capE [] = 0:=rfl
        rw [hc];simp
      rw [this] at hEE
      rw [← hEE]
      exact HJ.out
    | true =>
      have he:=Hqe.out
      have hd3:=(valid_e HOK.out).1 he
      have h3l:=dAt_lt hd3
      have h23:p2 r + 1 ≤ p3 r:=by unfold p3;split <;> omega
      have h1:p2 r + 1 < r.length:=by omega
      have h4e:p4 r = ov r (p3 r):=by unfold p4;rw [he];rfl
      have hHE:=Lib.hid he
      have hb:=bget r (p2 r + 1) h1
      obtain ⟨bm,hbm⟩:∃ bm,(r[p2 r + 1]? == some 45) = bm:=⟨_,rfl⟩
      obtain ⟨bp,hbp⟩:∃ bp,(r[p2 r + 1]? == some 43) = bp:=⟨_,rfl⟩
      have ht1:(((bt r (p2 r + 1):Nat):Int) == 45) = bm:=(bt_is h1 45).trans hbm
      have ht2:(((bt r (p2 r + 1):Nat):Int) == 43) = bp:=(bt_is h1 43).trans hbp
      have HU:=Lib.hid (show underP r = bm by unfold underP;rw [he,hbm];rfl)
      obtain ⟨bs,hbs⟩:∃ bs,(bp || bm) = bs:=⟨_,rfl⟩
      have HS:=Lib.hid (show p3 r = if bs = true then p2 r + 2 else p2 r + 1 by unfold p3 sgn;rw [hbm,hbp,hbs])
      have HBS:=Lib.hid hbs
      clear hbs
      have HL3:=Lib.hid h3l
      have H4E:=Lib.hid h4e
      have hnn:(((p2 r:Nat):Int) + 1).toNat = p2 r + 1:=by omega
      have h1I:((p2 r:Nat):Int) + 1 < ((r.length:Nat):Int):=by omega
      clear he hd3 h3l h23 h4e hbm hbp
      go_upto_region 15 with fail
      go_cut [64] from 58 to 65 (fun s64 wx=>s64 = .bool bs ∧ Blk wx w.heap.size 134 #[.bool false,.string ⟨#[]⟩,.int .i64 0] ∧ Blk wx (w.heap.size + 1) 134 #[.bool g,.string ⟨#[]⟩,.int .i64 (-((behindP r).length:Int))] ∧ Below w.heap.size w wx)
      case first =>
        cases bm with
        | true =>
          go_wp2_with fail
          go_meet
          exact ⟨by rw [← HBS.out];simp,HK.out,HJ.out,HB.out⟩
        | false =>
          go_wp2_with fail
          go_meet
          exact ⟨by rw [← HBS.out];simp,HK.out,HJ.out,HB.out⟩
      case rest =>
      obtain ⟨rfl,hk,hj,hb2⟩:=hcut
      have HK:=Lib.hid hk
      have HJ:=Lib.hid hj
      have HB:=Lib.hid hb2
      clear hk hj hb2 hb ht1 ht2 hnn
      go_upto_if 64 with fail
      go_cut [4] from 65 to 67 (fun s4 wx=>s4 = .int .i64 ((p3 r:Nat):Int) ∧ Blk wx w.heap.size 134 #[.bool false,.string ⟨#[]⟩,.int .i64 0] ∧ Blk wx (w.heap.size + 1) 134 #[.bool g,.string ⟨#[]⟩,.int .i64 (-((behindP r).length:Int))] ∧ Below w.heap.size w wx)
      case first =>
        have hs:=HS.out
        cases bs with
        | true =>
          have HV:=Lib.hid (show p3 r = p2 r + 2 from hs)
          clear hs
          go_wp2_with fail
          go_meet
          exact ⟨by rw [HV.out];go_num,HK.out,HJ.out,HB.out⟩
        | false =>
          have HV:=Lib.hid (show p3 r = p2 r + 1 from hs)
          clear hs
          go_wp2_with fail
          go_meet
          exact ⟨by rw [HV.out];go_num,HK.out,HJ.out,HB.out⟩
      case rest =>
      obtain ⟨rfl,hk,hj,hb2⟩:=hcut
      have HK:=Lib.hid hk
      have HJ:=Lib.hid hj
      have HB:=Lib.hid hb2
      clear hk hj hb2 h1I h1 hp2I hp2J
      have HP4:=Lib.hid (p4_le (s:=r))
      have HC:=Lib.hid (capE_take_lt (expP r) · (expP_digits r))
      go_wp2_with fail
      go_loop [4,8] (fun x y=>∃ k:Nat,x = .int .i64 (k:Int) ∧ p3 r ≤ k ∧ k ≤ p4 r ∧ y = .int .i64 ((capE ((expP r).take (k - p3 r)):Nat):Int)) (fun x _=>r.length - (intOf x).toNat)
      case atStart=>exact ⟨p3 r,rfl,Nat.le_refl _,by rw [H4E.out];exact ov_ge _ _,by simp [capE]⟩
      case round =>
        obtain ⟨k,rfl,hk1,hk2,rfl⟩:=hrel
        have hcl:=HC.out (k - p3 r)
        have hkI:((k:Nat):Int) ≤ 140737488353000:=by have:=HP4.out;omega
        have HD:=Lib.hid (fun W=>rdigit_any r k W HRL.out (by have:=HP4.out;have:=HRL.out;omega))
        rcases Nat.lt_or_ge k (p4 r) with hlt | hge
        · have hda:dAt r k = true:=dAt_mid hk1 (by rw [← H4E.out];exact hlt)
          rw [hda] at HD
          obtain ⟨hbe,hel⟩:=expP_at hHE.out k hk1 hlt
          have hst:=capE_step (expP r) (k - p3 r) hel
          rw [hbe,show k - p3 r + 1 = k + 1 - p3 r by omega] at hst
          have hbb:=bt_isD hel (expP_digits r)
          rw [hbe] at hbb
          have hkl:k < r.length:=by have:=HP4.out;omega
          have hbk:=bget r k hkl
          have hki:((k:Nat):Int) < ((r.length:Nat):Int):=by omega
          have HREL:=Lib.hid (show p3 r ≤ k + 1 ∧ k + 1 ≤ p4 r from ⟨by omega,by omega⟩)
          have HKL:=Lib.hid hkl
          obtain ⟨c',hc'⟩:∃ c',capE ((expP r).take (k + 1 - p3 r)) = c':=⟨_,rfl⟩
          rw [hc'] at hst
          have HCC:=Lib.hid hc'
          clear hc'
          generalize capE ((expP r).take (k - p3 r)) = c at *
          generalize bt r k = y at *
          clear hk1 hk2 hlt hda hbe hel
          by_cases hf:c < farE
          · rw [if_pos hf] at hst
            have HST:=Lib.hid hst
            have u2:decide (((c:Nat):Int) < 35184372088832) = true:=decide_eq_true (by unfold farE at hf;omega)
            have k1:IntKind.i64.wrap (10 * (c:Int)) = 10 * (c:Int):=IntWalk.i64_in _ (by unfold farE at hf;omega)
            have k2:IntKind.u8.wrap ((y:Int) - 48) = ((y - 48:Nat):Int):=by
              have:(y:Int) - 48 = ((y - 48:Nat):Int):=by omega
              rw [this];exact IntWalk.u8_in _ (by omega)
            have k4:IntKind.i64.wrap ((y - 48:Nat):Int) = ((y - 48:Nat):Int):=IntWalk.i64_in _ (by omega)
            have k3:IntKind.i64.wrap (10 * (c:Int) + ((y - 48:Nat):Int)) = (c':Int):=by rw [IntWalk.i64_in _ (by unfold farE at hf;omega)];omega
            generalize y - 48 = z at *
            clear hf hbb hcl hst
            go_wp2_with fail
            refine (HD.out _).mono ?_
            rintro e w1 ⟨rfl,rfl⟩
            go_wp2_with fail
            go_round
            case rel=>exact ⟨k + 1,by go_num,HREL.out.1,HREL.out.2,by rw [HCC.out]⟩
            case measure=>have:=HKL.out;simp [intOf];omega
          · rw [if_neg hf] at hst
            have HST:=Lib.hid hst
            have u2:decide (((c:Nat):Int) < 35184372088832) = false:=decide_eq_false (by unfold farE at hf;omega)
            clear hf hbb hcl hst
            go_wp2_with fail
            refine (HD.out _).mono ?_
            rintro e w1 ⟨rfl,rfl⟩
            go_wp2_with fail
            go_round
            case rel=>exact ⟨k + 1,by go_num,HREL.out.1,HREL.out.2,by rw [HCC.out,HST.out]⟩
            case measure=>have:=HKL.out;simp [intOf];omega
        · have hke:k = p4 r:=by omega
          have hda:dAt r k = false:=by rw [hke,H4E.out];exact ov_end _ _
          rw [hda] at HD
          have hcx:capE ((expP r).take (k - p3 r)) = capE (expP r):=by
            rw [List.take_of_length_le]
            rw [hke]
            have hx:expP r = cutL r (p3 r) (p4 r):=by unfold expP;rw [hHE.out];rfl
            rw [hx,cutL_full r (p3 r) (p4 r) HP4.out (by rw [H4E.out];exact ov_ge _ _)]
            exact Nat.le_refl _
          rw [hcx] at hcl ⊢
          have hee:=HEE.out
          rw [HU.out] at hee
          have hblI:=HBL2.out
          clear hk1 hk2 hge hke hda hcx
          generalize capE (expP r) = c at *
          obtain ⟨d0,d1,d2,g0,g1,g2⟩:=HJ.out.three
          generalize hn:(behindP r).length = n at *
          cases bm with
          | true =>
            simp only [if_true] at hee
            have k1:IntKind.i64.wrap (-(c:Int)) = -(c:Int):=IntWalk.i64_in _ (by unfold farE at hcl;omega)
            have k2:IntKind.i64.wrap (-(n:Int) + -(c:Int)) = E:=by rw [IntWalk.i64_in _ (by unfold farE at hcl;omega)];omega
            have k3:-(n:Int) + -(c:Int) = E:=by omega
            have hcI:(c:Int) ≤ 351843720888320:=by unfold farE at hcl;omega
            have hnI:(n:Int) ≤ 140737488353000:=by omega
            clear hcl hee hblI hn
            go_wp2_with fail
            refine (HD.out _).mono ?_
            rintro e w1 ⟨rfl,rfl⟩
            go_wp2_with fail
            go_meet
            exact ⟨HK.out.far (p:=⟨w.heap.size + 1,2,none⟩) (by simp) _,HJ.out.set1 2 _,HB.out.setCell (p:=⟨w.heap.size + 1,2,none⟩) (by simp) _⟩
          | false =>
            simp only [Bool.false_eq_true,if_false] at hee
            have k2:IntKind.i64.wrap (-(n:Int) + (c:Int)) = E:=by rw [IntWalk.i64_in _ (by unfold farE at hcl;omega)];omega
            have k3:-(n:Int) + (c:Int) = E:=by omega
            have hcI:(c:Int) ≤ 351843720888320:=by unfold farE at hcl;omega
            have hnI:(n:Int) ≤ 140737488353000:=by omega
            clear hcl hee hblI hn
            go_wp2_with fail
            refine (HD.out _).mono ?_
            rintro e w1 ⟨rfl,rfl⟩
            go_wp2_with fail
            go_meet
            exact ⟨HK.out.far (p:=⟨w.heap.size + 1,2,none⟩) (by simp) _,HJ.out.set1 2 _,HB.out.setCell (p:=⟨w.heap.size + 1,2,none⟩) (by simp) _⟩
  case rest =>
  obtain ⟨hk,hj,hb⟩:=hcut
  have HE:=Lib.hid (capE_lt (expP r) (expP_digits r))
  have hEb:-1000000000000000 ≤ E ∧ E ≤ 1000000000000000:=by
    have h1:=HE.out
    have h2:=HBL2.out
    unfold farE at h1
    rw [← HEE.out]
    split <;> omega
  have HST:=Lib.hid (fun W=>rstrip_any g (wholeP r ++ behindP r) E W HWL.out hEb)
  rw [HSD.out] at HST
  obtain ⟨c0,c1,c2,f0,f1,f2⟩:=hj.three
  have HK:=Lib.hid hk
  have HB:=Lib.hid hb
  clear hk hj hb hEb
  unfold decV sv at HST
  simp only at HST
  go_wp2_with fail
  refine (HST.out _).mono ?_
  rintro e w9 ⟨rfl,hb9⟩
  have HK9:=Lib.hid (HK.out.below hb9 HK.out.lt)
  have HB9:=Lib.hid (keepb HB.out hb9)
  obtain ⟨a0,a1,a2,b0,b1,b2⟩:=HK9.out.three
  clear hb9
  go_simp
  repeat go_step
  obtain ⟨x0,x1,x2⟩:=HK9.out.put3 (.bool sd0) (.string ⟨sd1.toArray⟩) (.int .i64 sd2)
  exact bodyPost_ret (v:=.agg #[.bool sd0,.string ⟨sd1.toArray⟩,.int .i64 sd2]) (by simp [results,Tryz.results60,go_sem,x0,x1,x2]) rfl ⟨rfl,below_put3 HB9.out (Nat.le_refl _) _ _ _⟩
end Go.Proofs.YtgmholdkdppbmaaGreatDoor

namespace Go.Proofs.YtgmholdkdppbmaaGreatDoor
open Go.RowKit
attribute [local go_sem] SGives_value SGives_skip SGives_enter
def B4:Nat:=10000
abbrev fv (x:Nat):Value:=.int .i64 (x:Int)
theorem ei_int:EI Tryz.prog 178 3 (.int .i64 0) 8:=⟨Tryz.underlying178,info_parts (by kernel_rfl),rfl,rfl⟩
def okI:Value → Prop:=fun u=>∃ m:Nat,u = fv m ∧ m < B4
theorem okI0:okI (.int .i64 0):=⟨0,rfl,by decide⟩
def RatL (w:World) (A:Option Addr) (n c x:Nat):Prop:=∃ l,IsF B4 x l ∧ l.length = n ∧ RT w 3 A (l.map fv) ∧ n ≤ c
def RatW (w:World) (v:Value) (x:Nat):Prop:=∃ A n c,v = .agg #[.slice A n c] ∧ RatL w A n c x
theorem RatL.below {w w':World} {A:Option Addr} {n c x:Nat} (h:RatL w A n c x) (hb:Below w.heap.size w w'):RatL w' A n c x:=by
  obtain ⟨l,h1,h2,h3,h4⟩:=h
  exact ⟨l,h1,h2,h3.below hb,h4⟩
theorem RatW.below {w w':World} {v:Value} {x:Nat} (h:RatW w v x) (hb:Below w.heap.size w w'):RatW w' v x:=by
  obtain ⟨A,n,c,h1,h2⟩:=h
  exact ⟨A,n,c,h1,h2.below hb⟩
theorem RatW.but {w w':World} {v:Value} {x b:Nat} {t:TypeId} {cs:Array Value} (h:RatW w v x) (hB:Blk w b t cs) (hne:3 ≠ t) (hb:But w.heap.size b w w'):RatW w' v x:=by
  obtain ⟨A,n,c,h1,l,h2,h3,h4,h5⟩:=h
  exact ⟨A,n,c,h1,l,h2,h3,h4.but hB hne hb,h5⟩
theorem RatW.set {w:World} {v:Value} {x b i:Nat} {t:TypeId} {cs:Array Value} (h:RatW w v x) (hB:Blk w b t cs) (hne:3 ≠ t) (u:Value):RatW (w.setCell ⟨b,i,none⟩ u) v x :=
  h.but hB hne ((But.refl _ b _).setCell (p:=⟨b,i,none⟩) (.inl rfl) u)
theorem RatW.drewN {w:World} {v:Value} {x:Nat} (h:RatW w v x) (k:Nat):RatW (w.drewN k) v x:=h.below (below_drewN (Below.refl _ _) k)
theorem RatW.nil (w:World):RatW w (.agg #[.slice none 0 0]) 0:=⟨none,0,0,rfl,[],IsF.nil _,rfl,RT.nil _ _,Nat.le_refl _⟩
def TrimP (A:Option Addr) (c:Nat) (l:List Nat) (w:World) (e:Ending) (w':World):Prop :=
  ∃ k,e = .returned (.agg #[.slice A k c]) ∧ k ≤ l.length ∧ IsF B4 (fval B4 l) (l.take k) ∧ Below w.heap.size w w'
set_option maxRecDepth 100000 in
theorem rtrim_any (A:Option Addr) (c:Nat) (l:List Nat) (w:World) (hr:RT w 3 A (l.map fv)) (hf:Figs B4 l) (hc:l.length ≤ c) (hn:l.length ≤ 1000000000000) :
    Calls Tryz.prog 106 #[.slice A l.length c] w (TrimP A c l w):=by
  have HR:=Lib.hid (hr.below (below_new w (.cells #[.slice none 0 0] 180)))
  have HF:=Lib.hid hf
  clear hr hf
  go_enter Tryz.func106,Tryz.ntmps106
  go_wp2_with fail
  go_loop [3] (fun s=>∃ k:Nat,s = .int .i64 k ∧ k ≤ l.length ∧ ∀ j,k ≤ j → l.getD j 0 = 0) (fun s=>(intOf s).toNat)
  case atStart=>exact ⟨l.length,rfl,Nat.le_refl _,fun j hj=>by simp [List.getD,hj]⟩
  case round =>
    obtain ⟨k,rfl,hk,hz⟩:=hrel
    have HZ:=Lib.hid hz
    clear hz
    cases k with
    | zero =>
      have HV:=Lib.hid (IsF.of_cut HF.out (Nat.zero_le _) HZ.out (.inl rfl))
      go_wp2_with fail
      exact bodyPost_ret (v:=.agg #[.slice A 0 c]) (by simp [results,Tryz.results106,go_sem]) rfl ⟨0,rfl,Nat.zero_le _,HV.out,by go_grown⟩
    | succ j =>
      obtain ⟨g,o,rfl,hl0⟩:=HR.out.cell j (by simp;omega)
      rw [List.getElem_map] at hl0
      have hlx:l.getD j 0 = l[j]:=by simp [List.getD,show j < l.length by omega]
      have HLX:=Lib.hid hlx
      clear hlx
      generalize l[j] = x at *
      by_cases h0:x = 0
      · subst h0
        have HM:Hid (∀ i,j ≤ i → l.getD i 0 = 0):=fun i hi=>by
          rcases Nat.lt_or_ge j i with h | h
          · exact HZ.out i h
          · obtain rfl:i = j:=by omega
            exact HLX.out
        go_wp2_with fail
        go_round
        case rel=>exact ⟨j,by go_num,by omega,HM.out⟩
        case measure=>simp [intOf]
      · have t1:((x:Int) == 0) = false:=by simp;omega
        have HV:=Lib.hid (IsF.of_cut HF.out hk HZ.out (.inr (by simp only [Nat.add_sub_cancel];rw [HLX.out];exact h0)))
        clear h0
        go_wp2_with fail
        exact bodyPost_ret (v:=.agg #[.slice (some ⟨g,o,none⟩) (j + 1) c]) (by simp [results,Tryz.results106,go_sem]) rfl ⟨j + 1,rfl,hk,HV.out,by go_grown⟩
set_option maxRecDepth 100000 in
theorem rat_at (v:Value) (x i:Nat) (w:World) (hv:RatW w v x) (hi:i ≤ 1000000000000) :
    Calls Tryz.prog 108 #[v,.int .i64 (i:Int)] w fun e w'=>e = .returned (fv (x / B4 ^ i % B4)) ∧ Below w.heap.size w w':=by
  obtain ⟨A,n,c,rfl,l,hf,hn,hr,hc⟩:=hv
  have HR:=Lib.hid (hr.below (below_new w (.cells #[.slice A n c] 180)))
  rw [← hf.get i]
  clear hr hf
  by_cases h:i < n
  · obtain ⟨g,o,rfl,hl0⟩:=HR.out.cell i (by simp;omega)
    rw [List.getElem_map] at hl0
    have hlx:l.getD i 0 = l[i]:=by simp [List.getD,show i < l.length by omega]
    rw [hlx]
    clear hlx
    generalize l[i] = y at *
    have t1:decide (i < n) = true:=by simp;omega
    have t1':decide ((i:Int) < n) = true:=by simp;omega
    have q:(i:Int) < n:=by omega
    go_enter Tryz.func108,Tryz.ntmps108
    go_wp2_with fail
    go_ret
    exact ⟨rfl,by go_grown⟩
  · have hlx:l.getD i 0 = 0:=by simp [List.getD,show l.length ≤ i by omega]
    rw [hlx]
    have t1:decide (i < n) = false:=by simp;omega
    have t1':decide ((i:Int) < n) = false:=by simp;omega
    go_enter Tryz.func108,Tryz.ntmps108
    go_wp2_with fail
    go_ret
    exact ⟨rfl,by go_grown⟩
def RatV (x:Nat) (w:World) (e:Ending) (w':World):Prop:=∃ A n c,e = .returned (.agg #[.slice A n c]) ∧ RatL w' A n c x ∧ Below w.heap.size w w'
theorem RatL.w {w:World} {A:Option Addr} {n c x:Nat} (h:RatL w A n c x):RatW w (.agg #[.slice A n c]) x:=⟨A,n,c,rfl,h⟩
theorem RatL.set {w:World} {A:Option Addr} {n c x b i:Nat} {t:TypeId} {cs:Array Value} (h:RatL w A n c x) (hB:Blk w b t cs) (hne:3 ≠ t) (u:Value):RatL (w.setCell ⟨b,i,none⟩ u) A n c x:=by
  obtain ⟨l,h2,h3,h4,h5⟩:=h
  exact ⟨l,h2,h3,h4.but hB hne ((But.refl _ b _).setCell (p:=⟨b,i,none⟩) (.inl rfl) u),h5⟩
set_option maxRecDepth 100000 in
set_option maxHeartbeats 1000000 in
theorem rof_nat (x:Nat) (w:World) (hx:x < W64) :
    Calls Tryz.prog 91 #[wv x] w (RatV x w):=by
  have HX:=Lib.hid hx
  have HK0:=Lib.hid (Blk.new w 180 #[.slice none 0 0])
  have HB0:=Lib.hid ((Below.refl _ w).alloc (Nat.le_refl _) (.cells #[.slice none 0 0] 180))
  clear hx
  go_enter Tryz.func91,Tryz.ntmps91
  go_wp2_with fail
  go_loopw [0,3] (fun s0 s3 wr=>∃ k:Nat,s0 = wv (x / B4 ^ k) ∧ k ≤ 5 ∧ (k = 0 ∨ x / B4 ^ (k - 1) ≠ 0) ∧ OwnR wr (w.heap.size + 1) 3 okI s3 k ((lows B4 k x).map fv) ∧ Blk wr w.heap.size 180 #[.slice none 0 0] ∧ Below w.heap.size w wr) (fun s0 _ _=>(intOf s0).toNat)
  case atStart=>exact ⟨0,by rw [Nat.pow_zero,Nat.div_one],by omega,.inl rfl,OwnR.nil _ _ _ _,HK0.out,HB0.out⟩
  case round =>
    obtain ⟨k,rfl,hk5,hkt,hu,hk,hb⟩:=hrel
    have HKT:=Lib.hid hkt
    have HU:=Lib.hid hu
    have HK:=Lib.hid hk
    have HB:=Lib.hid hb
    obtain ⟨A1,c1,hu',hc1⟩:=hu.shape
    subst hu'
    have hle:w.heap.size + 1 ≤ wr.heap.size:=hk.lt
    have HLE:=Lib.hid hle
    clear hkt hu hb hle
    by_cases h0:x / B4 ^ k = 0
    · have hF:IsF B4 x (lows B4 k x):=by
        have hlt:x < B4 ^ k:=by
          rcases Nat.div_eq_zero_iff.1 h0 with h | h
          · exact absurd h (Nat.pos_iff_ne_zero.1 (Nat.pow_pos (by decide)))
          · exact h
        refine ⟨lows_figs _ _ _ (by decide),by rw [fval_lows,Nat.mod_eq_of_lt hlt],fun i hi=>?_⟩
        rw [lows_length] at hi
        have hg:=lows_get B4 k x i (by omega)
        rw [List.getD_eq_getElem?_getD,hg]
        rcases HKT.out with h | h
        · omega
        · rw [show k - 1 = i by omega] at h
          have hl:x / B4 ^ i < B4:=by
            rw [Nat.div_lt_iff_lt_mul (Nat.pow_pos (by decide)),Nat.mul_comm,← Nat.pow_succ,show i.succ = k by omega]
            exact hlt
          simp only [Option.getD_some]
          rw [Nat.mod_eq_of_lt hl]
          exact h
      have HF:=Lib.hid hF
      rw [h0]
      have e0:wv 0 = .int .u64 0:=rfl
      rw [e0]
      clear hF h0 e0
      obtain ⟨c0,f0⟩:wr.cell? ⟨w.heap.size,0,none⟩ = some (.slice none 0 0) ∧ wr.frozen? ⟨w.heap.size,0,none⟩ = false:=⟨hk.cell 0,hk.frozen 0⟩
      clear hk
      go_wp2_with fail
      have hp:=HK.out.put (i:=0) (by simp) (.slice A1 k c1)
      have hR:RatL wr A1 k c1 x:=⟨_,HF.out,lows_length _ _ _,RT.of_own HU.out,hc1⟩
      exact bodyPost_ret (v:=.agg #[.slice A1 k c1]) (by simp [results,Tryz.results91,go_sem,hp]) rfl ⟨A1,k,c1,rfl,hR.set HK.out (by decide) _,HB.out.setCell (p:=⟨w.heap.size,0,none⟩) (Nat.le_refl _) _⟩
    · have hy:0 < x / B4 ^ k:=Nat.pos_of_ne_zero h0
      have hk4:k ≤ 4:=by
        rcases Nat.lt_or_ge k 5 with h | h
        · omega
        · obtain rfl:k = 5:=by omega
          have:=HX.out
          have:x / B4 ^ 5 = 0:=Nat.div_eq_of_lt (by unfold W64 at this;unfold B4;omega)
          omega
      have hyl:x / B4 ^ k < W64:=Nat.lt_of_le_of_lt (Nat.div_le_self _ _) HX.out
      have hsn:=lows_snoc B4 k x
      have hdv:x / B4 ^ (k + 1) = x / B4 ^ k / 10000:=by rw [Nat.pow_succ,← Nat.div_div_eq_div_mul];rfl
      have HDV:=Lib.hid hdv
      have HNE:=Lib.hid (show k + 1 = 0 ∨ x / B4 ^ (k + 1 - 1) ≠ 0 from .inr (by rw [Nat.add_sub_cancel];exact h0))
      have hsn:lows B4 (k + 1) x = lows B4 k x ++ [x / B4 ^ k % 10000]:=hsn
      have HSN:=Lib.hid hsn
      generalize x / B4 ^ k = y at *
      have t1:decide ((0:Int) < (y:Int)) = true:=decide_eq_true (by omega)
      have t1':decide (0 < y) = true:=decide_eq_true hy
      have e1:(y:Int) % 10000 = ((y % 10000:Nat):Int):=by omega
      have e2:Int.tmod (y:Int) 10000 = ((y % 10000:Nat):Int):=by rw [Int.tmod_eq_emod_of_nonneg (by omega)];omega
      have e3:(y:Int) / 10000 = ((y / 10000:Nat):Int):=by omega
      have e4:Int.tdiv (y:Int) 10000 = ((y / 10000:Nat):Int):=by rw [Int.tdiv_eq_ediv_of_nonneg (by omega)];omega
      have hm:y % 10000 < 10000:=Nat.mod_lt _ (by decide)
      have e5:IntKind.i64.wrap ((y % 10000:Nat):Int) = ((y % 10000:Nat):Int):=IntWalk.i64_in _ (by omega)
      have HQ:=Lib.hid (show y / 10000 < y by omega)
      have hy64:(y:Int) ≤ 18446744073709551615:=by unfold W64 at hyl;omega
      generalize y % 10000 = d at *
      generalize y / 10000 = q at *
      clear h0 hy hyl hsn hdv hm hk
      go_wp2_with (at_builtin;refine wpList_app ei_int okI0 rfl (.tmp 6) (.tmp 10) rfl (w.heap.size + 1) _ _ _ rfl (HU.out.below (below_new _ _)) _ _ _ _ _ rfl (RV.fresh wr 3 [fv d]) (fun u hu=>by simp at hu;subst hu;rfl) (show k + 1 ≤ _ by omega) (show (k + 1) * 8 ≤ _ by omega) (by have:=HLE.out;simp;omega) ?_;intro A3 c3 w3 hu3 hg3 ha3)
      go_roundw
      case rel=>exact ⟨k + 1,by rw [HDV.out],by omega,HNE.out,by rw [HSN.out,List.map_append];exact hu3,(HK.out.alloc _).grown hg3 (fun h=>HU.out.apart HK.out (by decide) h.symm),(HB.out.alloc (by have:=HLE.out;omega) _).grown hg3 (by have:=HLE.out;simp;omega) (fun k hk=>by have:=(HU.out.lt k hk).1;omega)⟩
      case measure=>have:=HQ.out;simp [intOf];omega
theorem rcmp_step (x y:Nat) (j:Nat) (h:x / B4 ^ (j + 1) = y / B4 ^ (j + 1)):(x / B4 ^ j = y / B4 ^ j ↔ x / B4 ^ j % B4 = y / B4 ^ j % B4) ∧ (x / B4 ^ j % B4 < y / B4 ^ j % B4 → x < y) ∧ (y / B4 ^ j % B4 < x / B4 ^ j % B4 → y < x):=by
  have e:∀ z,z / B4 ^ j = B4 * (z / B4 ^ (j + 1)) + z / B4 ^ j % B4:=fun z=>by
    rw [Nat.pow_succ,← Nat.div_div_eq_div_mul,Nat.div_add_mod]
  have ex:=e x
  have ey:=e y
  rw [h] at ex
  refine ⟨⟨fun h1=>by rw [h1],fun h1=>by rw [ex,ey,h1]⟩,fun h1=>?_,fun h1=>?_⟩
  · have h2:x / B4 ^ j < y / B4 ^ j:=by rw [ex,ey];omega
    exact Nat.lt_of_not_le fun h3=>Nat.not_le_of_lt h2 (Nat.div_le_div_right h3)
  · have h2:y / B4 ^ j < x / B4 ^ j:=by rw [ex,ey];omega
    exact Nat.lt_of_not_le fun h3=>Nat.not_le_of_lt h2 (Nat.div_le_div_right h3)
theorem rlen_lt {x y:Nat} {l m:List Nat} (h:IsF B4 x l) (k:IsF B4 y m) (hl:l.length < m.length):x < y:=by
  have h1:=h.lt
  have h2:=k.ge (m.length - 1) (by omega)
  exact Nat.lt_of_lt_of_le h1 (Nat.le_trans (Nat.pow_le_pow_right (by decide) (by omega)) h2)
set_option maxRecDepth 100000 in
set_option maxHeartbeats 1000000 in
theorem ragainst_nat (v u:Value) (x y:Nat) (w:World) (hv:RatW w v x) (hu:RatW w u y) (hx:x < B4 ^ 1000000) (hy:y < B4 ^ 1000000) :
    Calls Tryz.prog 95 #[v,u] w fun e w'=>e = .returned (.int .i64 (cmpI x y)) ∧ Below w.heap.size w w':=by
  obtain ⟨A,n,c,rfl,l,hf,rfl,hr,hc⟩:=hv
  obtain ⟨B,m,d,rfl,k,kf,rfl,kr,kc⟩:=hu
  have hln:=hf.len_le (by decide) hx
  have hkn:=kf.len_le (by decide) hy
  have hnI:((l.length:Nat):Int) ≤ 1000000:=by omega
  have hmI:((k.length:Nat):Int) ≤ 1000000:=by omega
  have HF:=Lib.hid hf
  have KF:=Lib.hid kf
  have hb0:Below w.heap.size w ((w.alloc (.cells #[.slice A l.length c] 180)).alloc (.cells #[.slice B k.length d] 180)):=by go_grown
  have HR:=Lib.hid (hr.below hb0)
  have KR:=Lib.hid (kr.below hb0)
  have HB0:=Lib.hid hb0
  have HKA:=Lib.hid ((Blk.new w 180 #[.slice A l.length c]).alloc (.cells #[.slice B k.length d] 180))
  have HKB:=Lib.hid (show Blk ((w.alloc (.cells #[.slice A l.length c] 180)).alloc (.cells #[.slice B k.length d] 180)) (w.heap.size + 1) 180 #[.slice B k.length d] by
    have:=Blk.new (w.alloc (.cells #[.slice A l.length c] 180)) 180 #[.slice B k.length d]
    rwa [World.size_alloc] at this)
  clear hf kf hr kr hc kc hb0 hx hy hln hkn
  rcases Nat.lt_trichotomy l.length k.length with hlt | heq | hgt
  · have HC:=Lib.hid (cmpI_lt (rlen_lt HF.out KF.out hlt))
    have t1:(((l.length:Nat):Int) != ((k.length:Nat):Int)) = true:=by rw [bne_iff_ne];omega
    have t1':(l.length != k.length) = true:=by rw [bne_iff_ne];omega
    have t2:decide (((l.length:Nat):Int) < ((k.length:Nat):Int)) = true:=decide_eq_true (by omega)
    have t2':decide (l.length < k.length) = true:=decide_eq_true (by omega)
    clear hlt
    go_enter Tryz.func95,Tryz.ntmps95
    go_wp2_with fail
    go_ret
    exact ⟨by rw [HC.out] <;> rfl,HB0.out⟩
  · obtain ⟨n,hn⟩:∃ n,l.length = n:=⟨_,rfl⟩
    have hkn:k.length = n:=by omega
    have HLN:=Lib.hid hn
    have HKN:=Lib.hid hkn
    rw [hn] at HKA HKB HR HB0 KR hnI ⊢
    rw [hkn] at HKA HKB HB0 KR HR ⊢
    have t1:(((n:Nat):Int) != ((n:Nat):Int)) = false:=by simp
    have t1':(n != n) = false:=by simp
    have H0:Hid (x / B4 ^ n = y / B4 ^ n):=Lib.hid (by
      rw [Nat.div_eq_of_lt (by have:=HF.out.lt;rwa [hn] at this),Nat.div_eq_of_lt (by have:=KF.out.lt;rwa [hkn] at this)])
    clear heq hn hkn hmI
    generalize hW0:((w.alloc (.cells #[.slice A n c] 180)).alloc (.cells #[.slice B n d] 180)) = W0 at *
    obtain ⟨ca,fa⟩:W0.cell? ⟨w.heap.size,0,none⟩ = some (.slice A n c) ∧ W0.frozen? ⟨w.heap.size,0,none⟩ = false:=⟨HKA.out.cell 0,HKA.out.frozen 0⟩
    obtain ⟨cb,fb⟩:W0.cell? ⟨w.heap.size + 1,0,none⟩ = some (.slice B n d) ∧ W0.frozen? ⟨w.heap.size + 1,0,none⟩ = false:=⟨HKB.out.cell 0,HKB.out.frozen 0⟩
    go_enter Tryz.func95,Tryz.ntmps95
    go_wp2_with fail
    clear ca cb fa fb hW0
    go_loopw [5] (fun s5 wr=>∃ j:Nat,s5 = .int .i64 ((j:Int) - 1) ∧ j ≤ n ∧ x / B4 ^ j = y / B4 ^ j ∧ Below W0.heap.size W0 wr) (fun s _=>(intOf s + 1).toNat)
    case atStart=>exact ⟨n,rfl,Nat.le_refl _,H0.out,Below.refl _ _⟩
    case round =>
      obtain ⟨j,rfl,hj,hxy,hb⟩:=hrel
      have HXY:=Lib.hid hxy
      have HB:=Lib.hid hb
      have hKA:=HKA.out.below hb HKA.out.lt
      have hKB:=HKB.out.below hb HKB.out.lt
      obtain ⟨ca,fa⟩:wr.cell? ⟨w.heap.size,0,none⟩ = some (.slice A n c) ∧ wr.frozen? ⟨w.heap.size,0,none⟩ = false:=⟨hKA.cell 0,hKA.frozen 0⟩
      obtain ⟨cb,fb⟩:wr.cell? ⟨w.heap.size + 1,0,none⟩ = some (.slice B n d) ∧ wr.frozen? ⟨w.heap.size + 1,0,none⟩ = false:=⟨hKB.cell 0,hKB.frozen 0⟩
      have HBW:=Lib.hid (keepb HB0.out hb)
      clear hxy hb hKA hKB
      cases j with
      | zero =>
        have HC:=Lib.hid (show cmpI x y = 0 by have:=HXY.out;rw [Nat.pow_zero,Nat.div_one,Nat.div_one] at this;rw [this,cmpI_eq])
        have e9:(((0:Nat)):Int) - 1 = -1:=rfl
        rw [e9]
        clear e9
        go_wp2_with fail
        go_ret
        exact ⟨by rw [HC.out] <;> rfl,HBW.out⟩
      | succ i =>
        have e9:(((i + 1:Nat)):Int) - 1 = ((i:Nat):Int):=by omega
        rw [e9]
        clear e9
        have hil:i < l.length:=by rw [HLN.out];omega
        have hik:i < k.length:=by rw [HKN.out];omega
        obtain ⟨g1,o1,hA,hl0⟩:=(HR.out.below HB.out).cell i (by simpa using hil)
        obtain ⟨g2,o2,hB',hk0⟩:=(KR.out.below HB.out).cell i (by simpa using hik)
        subst hA hB'
        rw [List.getElem_map] at hl0 hk0
        have hlv:l[i] = x / B4 ^ i % B4:=by have:=HF.out.get i;rwa [show l.getD i 0 = l[i] by simp [List.getD,hil]] at this
        have hkv:k[i] = y / B4 ^ i % B4:=by have:=KF.out.get i;rwa [show k.getD i 0 = k[i] by simp [List.getD,hik]] at this
        have HST:=Lib.hid (rcmp_step x y i HXY.out)
        rw [hlv] at hl0
        rw [hkv] at hk0
        generalize x / B4 ^ i % B4 = p at *
        generalize y / B4 ^ i % B4 = q at *
        have hi0:(0:Int) ≤ (i:Int):=by omega
        have hin:(i:Int) < (n:Int):=by omega
        have t5:decide ((0:Int) ≤ (i:Int)) = true:=decide_eq_true hi0
        have HIN:=Lib.hid hj
        clear hil hik hlv hkv hj
        rcases Nat.lt_trichotomy p q with hp | hp | hp
        · have q1:decide ((p:Int) < (q:Int)) = true:=decide_eq_true (by omega)
          have q1':decide (p < q) = true:=decide_eq_true hp
          have HC:=Lib.hid (show cmpI x y = -1 from cmpI_lt (HST.out.2.1 hp))
          clear hp
          go_upto_region 8 with fail
          go_quiet (fail)
          go_wp2_with fail
          go_ret
          exact ⟨by rw [HC.out] <;> rfl,below_drewN HBW.out _⟩
        · subst hp
          have q1:decide ((p:Int) < (p:Int)) = false:=by simp
          have q1':decide (p < p) = false:=by simp
          have HE:=Lib.hid (HST.out.1.2 rfl)
          go_upto_region 8 with fail
          go_quiet (fail)
          go_upto_region 10 with fail
          go_quiet (fail)
          go_wp2_with fail
          go_roundw
          case rel=>exact ⟨i,rfl,by have:=HIN.out;omega,HE.out,below_drewN HB.out _⟩
          case measure=>simp [intOf]
        · have q1:decide ((p:Int) < (q:Int)) = false:=decide_eq_false (by omega)
          have q1':decide (p < q) = false:=decide_eq_false (by omega)
          have q2:decide ((q:Int) < (p:Int)) = true:=decide_eq_true (by omega)
          have q2':decide (q < p) = true:=decide_eq_true hp
          have HC:=Lib.hid (show cmpI x y = 1 from cmpI_gt (HST.out.2.2 hp))
          clear hp
          go_upto_region 8 with fail
          go_quiet (fail)
          go_upto_region 10 with fail
          go_quiet (fail)
          go_wp2_with fail
          go_ret
          exact ⟨by rw [HC.out] <;> rfl,below_drewN (below_drewN HBW.out _) _⟩
  · have HC:=Lib.hid (cmpI_gt (rlen_lt KF.out HF.out hgt))
    have t1:(((l.length:Nat):Int) != ((k.length:Nat):Int)) = true:=by rw [bne_iff_ne];omega
    have t1':(l.length != k.length) = true:=by rw [bne_iff_ne];omega
    have t2:decide (((l.length:Nat):Int) < ((k.length:Nat):Int)) = false:=decide_eq_false (by omega)
    have t2':decide (l.length < k.length) = false:=decide_eq_false (by omega)
    clear hgt
    go_enter Tryz.func95,Tryz.ntmps95
    go_wp2_with fail
    go_ret
    exact ⟨by rw [HC.out] <;> rfl,HB0.out⟩
end Go.Proofs.YtgmholdkdppbmaaGreatDoor
namespace Go.Proofs.YtgmholdkdppbmaaGreatDoor
open Go.RowKit
attribute [local go_sem] SGives_value SGives_skip SGives_enter
theorem RatL.fig {w:World} {A:Option Addr} {n c x j:Nat} (h:RatL w A n c x) (hj:j < n):∃ g o,A = some ⟨g,o,none⟩ ∧ w.cell? ⟨g,o + j,none⟩ = some (fv (x / B4 ^ j % B4)):=by
  obtain ⟨l,hf,rfl,hr,_⟩:=h
  obtain ⟨g,o,hA,hc⟩:=hr.cell j (by simpa using hj)
  refine ⟨g,o,hA,?_⟩
  rw [hc,List.getElem_map,← hf.get j]
  simp [List.getD,hj]
theorem RatL.figs {w:World} {g o:Nat} {n c x j:Nat} (h:RatL w (some ⟨g,o,none⟩) n c x) (hj:j < n):w.cell? ⟨g,o + j,none⟩ = some (fv (x / B4 ^ j % B4)):=by
  obtain ⟨g',o',hA,hc⟩:=h.fig hj
  injection hA with hA
  injection hA with h1 h2
  subst h1 h2
  exact hc
theorem RatL.lt {w:World} {A:Option Addr} {n c x:Nat} (h:RatL w A n c x):x < B4 ^ n:=by obtain ⟨l,h1,rfl,_⟩:=h;exact h1.lt
theorem RatL.len {w:World} {A:Option Addr} {n c x:Nat} (h:RatL w A n c x) {k:Nat} (hx:x < B4 ^ k):n ≤ k:=by obtain ⟨l,h1,rfl,_⟩:=h;exact h1.len_le (by decide) hx
theorem zs_int (n:Nat):(zs (.int .i64 0) n).toArray = ((List.replicate n 0).map fv).toArray:=by unfold zs;rw [List.map_replicate];rfl
theorem set_fv (M:List Nat) (t v:Nat):((M.map fv).toArray.setIfInBounds t (fv v)) = ((M.set t v).map fv).toArray:=by rw [List.setIfInBounds_toArray,List.map_set]
theorem blk_fv {W:World} {g t:Nat} {M:List Nat} (h:Blk W g 3 (M.map fv).toArray) (ht:t < M.length):W.cell? ⟨g,t,none⟩ = some (fv (M.getD t 0)):=by
  rw [h.cell,List.getElem?_toArray,List.getElem?_map,List.getElem?_eq_getElem ht]
  simp [List.getD,ht]
theorem rmul_step {o c X Y N' N P D S:Nat} (hS:S = o + X * Y + c) (hfs:N' + P * o = N + P * (S % B4)) (hv:N + P * c = D):N' + P * B4 * (S / B4) = D + P * (X * Y):=by
  have e:=Nat.div_add_mod S B4
  have h1:P * S = P * B4 * (S / B4) + P * (S % B4):=by
    rw [Nat.mul_assoc,← Nat.mul_add,e]
  have h2:P * S = P * o + P * (X * Y) + P * c:=by rw [hS,Nat.mul_add,Nat.mul_add]
  omega
set_option maxRecDepth 100000 in
set_option maxHeartbeats 4000000 in
theorem rproduct_nat (v u:Value) (x y:Nat) (w:World) (hv:RatW w v x) (hu:RatW w u y) (hx:x < B4 ^ 10000) (hy:y < B4 ^ 10000) :
    Calls Tryz.prog 93 #[v,u] w (RatV (x * y) w):=by
  obtain ⟨A,n,c,rfl,hl⟩:=hv
  obtain ⟨B,m,d,rfl,hk⟩:=hu
  have HL:=Lib.hid hl
  have HK:=Lib.hid hk
  have hn1:=hl.len hx
  have hm1:=hk.len hy
  have HXN:=Lib.hid (Nat.mod_eq_of_lt hl.lt)
  have HYL:=Lib.hid hk.lt
  have hmk:=fun W=>run_mk ei_int .i64 .i64 (n + m + 1) (n + m + 1) (Nat.le_refl _) (by omega) (by omega) W
  have e2:((n + m + 1:Nat):Int) = (n:Int) + (m:Int) + 1:=by omega
  rw [e2] at hmk
  have hni:(n:Int) ≤ 10000:=by omega
  have hmi:(m:Int) ≤ 10000:=by omega
  clear hl hk hx hy e2
  go_enter Tryz.func93,Tryz.ntmps93
  go_wp2_with fail
  obtain ⟨W0,hW0⟩:∃ W0,W0 = ((w.alloc (.cells #[.slice A n c] 180)).alloc (.cells #[.slice B m d] 180)).alloc (.cells #[.slice none 0 0] 180):=⟨_,rfl⟩
  have hb0:Below w.heap.size w W0:=by rw [hW0];go_grown
  have hsz:W0.heap.size = w.heap.size + 1 + 1 + 1:=by rw [hW0];simp
  have ca:W0.cell? ⟨w.heap.size,0,none⟩ = some (.slice A n c):=by rw [hW0];exact (boxes3 w _ _ _ _).1
  have cb:W0.cell? ⟨w.heap.size + 1,0,none⟩ = some (.slice B m d):=by rw [hW0];exact (boxes3 w _ _ _ _).2
  have hbk:Blk W0 (w.heap.size + 2) 180 #[.slice none 0 0]:=by
    have:=Blk.new ((w.alloc (.cells #[.slice A n c] 180)).alloc (.cells #[.slice B m d] 180)) 180 #[.slice none 0 0]
    simp only [World.size_alloc] at this
    rw [hW0];exact this
  rw [← hW0]
  have HB0:=Lib.hid hb0
  have HSZ:=Lib.hid hsz
  have HA:=Lib.hid ca
  have HB:=Lib.hid cb
  have HBK:=Lib.hid hbk
  clear hW0 hb0 hsz ca cb hbk
  obtain ⟨g0,hg0⟩:∃ g0,g0 = W0.heap.size:=⟨_,rfl⟩
  have hg3:w.heap.size + 1 + 1 + 1 = g0:=by rw [hg0,HSZ.out]
  have HBO:=Lib.hid (show Blk (W0.alloc (.cells (zs (.int .i64 0) (n + m + 1)).toArray 3)) g0 3 ((List.replicate (n + m + 1) 0).map fv).toArray by rw [hg0,← zs_int];exact Blk.new _ _ _)
  have HG0:=Lib.hid hg0
  have HG3:=Lib.hid hg3
  simp only [hg3]
  clear hg0
  go_loopw [6] (fun s6 wr=>∃ (j:Nat) (M:List Nat),s6 = .int .i64 j ∧ j ≤ n ∧ M.length = n + m + 1 ∧ Figs B4 M ∧ fval B4 M = x % B4 ^ j * y ∧ Blk wr g0 3 (M.map fv).toArray ∧ Below W0.heap.size W0 wr) (fun s _=>n - (intOf s).toNat)
  case atStart=>exact ⟨0,List.replicate (n + m + 1) 0,rfl,by omega,by simp,fun d hd=>by rw [(List.mem_replicate.1 hd).2];decide,by rw [fval_zero (fun d hd=>(List.mem_replicate.1 hd).2)];simp [Nat.mod_one],HBO.out,below_new _ _⟩
  case round =>
    obtain ⟨j,M,rfl,hj,hml,hmf,hmv,hblk,hbel⟩:=hrel
    obtain ⟨wo,rfl⟩:∃ wo:World,wo = wr:=⟨_,rfl⟩
    have HML:=Lib.hid hml
    have HMF:=Lib.hid hmf
    have HMV:=Lib.hid hmv
    have HBL:=Lib.hid hblk
    have HBE:=Lib.hid hbel
    have HBWo:Hid (Below w.heap.size w wo):=Lib.hid (keepb HB0.out hbel)
    have ca:=keepc hbel (by rw [HSZ.out];omega) HA.out
    clear hml hmf hmv hblk hbel
    by_cases hlt:j < n
    · have t1:decide ((j:Int) < n) = true:=decide_eq_true (by omega)
      have t1':decide (j < n) = true:=decide_eq_true hlt
      have hlx:(j:Int) < n:=by omega
      have cb:=keepc HBE.out (by rw [HSZ.out];omega) HB.out
      have HJL:=Lib.hid hlt
      clear hlt
      have HXM:Hid (x % B4 ^ (j + 1) = x % B4 ^ j + B4 ^ j * (x / B4 ^ j % B4)):=Lib.hid Nat.mod_pow_succ
      have HXL:=Lib.hid (show x % B4 ^ (j + 1) < B4 ^ (j + 1) from Nat.mod_lt _ (Nat.pow_pos (by decide)))
      obtain ⟨g1,o1,hA1,_⟩:=(HL.out.below HBWo.out).fig HJL.out
      subst hA1
      have hX:x / B4 ^ j % B4 < B4:=Nat.mod_lt _ (by decide)
      have HX:=Lib.hid hX
      obtain ⟨X,hXX⟩:∃ X,x / B4 ^ j % B4 = X:=⟨_,rfl⟩
      have HXX:=Lib.hid hXX
      rw [hXX] at HX HXM
      clear hX hXX
      go_wp2_with fail
      go_loopw [7,8] (fun s7 s8 wr=>∃ (k cy:Nat) (N:List Nat),s7 = .int .i64 cy ∧ s8 = .int .i64 k ∧ cy < B4 ∧ k ≤ m + 1 ∧ N.length = n + m + 1 ∧ Figs B4 N ∧ fval B4 N + B4 ^ (j + k) * cy = x % B4 ^ j * y + B4 ^ j * X * (y % B4 ^ k) ∧ Blk wr g0 3 (N.map fv).toArray ∧ Below W0.heap.size W0 wr) (fun _ s _=>m + 1 - (intOf s).toNat)
      case atStart=>exact ⟨0,0,M,rfl,rfl,by decide,by omega,HML.out,HMF.out,by rw [HMV.out,Nat.mul_zero,Nat.pow_zero,Nat.mod_one,Nat.mul_zero],HBL.out,HBE.out⟩
      case round =>
        obtain ⟨k,cy,N,rfl,rfl,hcy,hk,hnl,hnf,hnv,hblk,hbel⟩:=hrel
        obtain ⟨wi,rfl⟩:∃ wi:World,wi = wr:=⟨_,rfl⟩
        have HCY:=Lib.hid hcy
        have HNL:=Lib.hid hnl
        have HNF:=Lib.hid hnf
        have HNV:=Lib.hid hnv
        have HBN:=Lib.hid hblk
        have HBEN:=Lib.hid hbel
        have HBWi:Hid (Below w.heap.size w wi):=Lib.hid (keepb HB0.out hbel)
        have HCA:=Lib.hid (keepc hbel (by rw [HSZ.out];omega) HA.out)
        have HCB:=Lib.hid (keepc hbel (by rw [HSZ.out];omega) HB.out)
        have cb:=HCB.out
        have hcb':(cy:Int) < 10000:=by unfold B4 at hcy;omega
        -- while the carry goes on,the place lies within the row
        have hin:0 < cy → k ≤ m:=by
          intro h0
          have h1:B4 ^ (j + k) ≤ B4 ^ (j + k) * cy:=Nat.le_mul_of_pos_right _ h0
          have h2:x % B4 ^ j * y + B4 ^ j * X * (y % B4 ^ k) ≤ x % B4 ^ (j + 1) * y:=by
            rw [HXM.out,Nat.add_mul]
            exact Nat.add_le_add_left (Nat.mul_le_mul_left _ (Nat.mod_le _ _)) _
          have h3:x % B4 ^ (j + 1) * y < B4 ^ (j + 1) * B4 ^ m:=Nat.mul_lt_mul'' HXL.out HYL.out
          rw [← Nat.pow_add] at h3
          have h4:B4 ^ (j + k) < B4 ^ (j + 1 + m):=by omega
          have:=pow_lt_inj (q:=B4) (by decide) h4
          omega
        clear hcy hnl hnf hnv hblk hbel
        by_cases hgo:k < m ∨ 0 < cy
        · have hkm:k ≤ m:=by
            rcases hgo with h | h
            · omega
            · exact hin h
          have HKM:=Lib.hid hkm
          have hto:j + k < n + m + 1:=by have:=HJL.out;omega
          obtain ⟨t,ht⟩:∃ t,j + k = t:=⟨_,rfl⟩
          have HT:=Lib.hid ht
          have HNVt:=Lib.hid HNV.out
          rw [ht] at HNVt hto
          have hcO:=blk_fv HBN.out (t:=t) (by rw [HNL.out];exact hto)
          have hfO:=HBN.out.frozen t
          have hO:N.getD t 0 < B4:=HNF.out.get (by decide)
          have HFS:=Lib.hid (fun v=>fval_set B4 N t v (by rw [HNL.out];exact hto))
          have HYMk:Hid (y % B4 ^ (k + 1) = y % B4 ^ k + B4 ^ k * (y / B4 ^ k % B4)):=Lib.hid Nat.mod_pow_succ
          have hY:y / B4 ^ k % B4 < B4:=Nat.mod_lt _ (by decide)
          have HAT:=Lib.hid (fun W (h:RatL W B m d y)=>rat_at _ y k W h.w (by omega))
          have hXb:=HX.out
          generalize y / B4 ^ k % B4 = Y at *
          generalize N.getD t 0 = o at *
          have hXY:X * Y ≤ 9999 * 9999:=Nat.mul_le_mul (by unfold B4 at hXb;omega) (by unfold B4 at hY;omega)
          obtain ⟨P,hP⟩:∃ P,X * Y = P:=⟨_,rfl⟩
          obtain ⟨S2,hS2⟩:∃ S2,o + P + cy = S2:=⟨_,rfl⟩
          have HS2:=Lib.hid (show S2 = o + X * Y + cy by rw [hP,hS2])
          have o9:o < 10000:=hO
          have c9:cy < 10000:=by omega
          have k1:IntKind.i64.wrap ((X:Int) * (Y:Int)) = (P:Int):=by
            rw [show (X:Int) * (Y:Int) = (P:Int) by rw [← hP,Int.natCast_mul]]
            exact IntWalk.i64_in _ (by omega)
          obtain ⟨S1,hS1⟩:∃ S1,o + P = S1:=⟨_,rfl⟩
          have k2:IntKind.i64.wrap ((o:Int) + (P:Int)) = (S1:Int):=by rw [IntWalk.i64_in _ (by omega)];omega
          have k3:IntKind.i64.wrap ((S1:Int) + (cy:Int)) = (S2:Int):=by rw [IntWalk.i64_in _ (by omega)];omega
          have k4:IntKind.i64.wrap ((j:Int) + (k:Int)) = (t:Int):=by rw [IntWalk.i64_in _ (by omega)];omega
          have hS2b:S2 < B4 * B4:=by unfold B4;omega
          have HSB:=Lib.hid (show S2 / B4 < B4 by rw [Nat.div_lt_iff_lt_mul (by decide)];exact hS2b)
          have HSM:=Lib.hid (show S2 % B4 < B4 from Nat.mod_lt _ (by decide))
          have e1:(S2:Int) % 10000 = ((S2 % B4:Nat):Int):=by unfold B4;omega
          have e2:Int.tmod (S2:Int) 10000 = ((S2 % B4:Nat):Int):=by rw [Int.tmod_eq_emod_of_nonneg (by omega)];exact e1
          have e3:(S2:Int) / 10000 = ((S2 / B4:Nat):Int):=by unfold B4;omega
          have e4:Int.tdiv (S2:Int) 10000 = ((S2 / B4:Nat):Int):=by rw [Int.tdiv_eq_ediv_of_nonneg (by omega)];exact e3
          have hS2I:(S2:Int) ≤ 1000000000:=by omega
          have HGO:=Lib.hid hgo
          have htI:(t:Int) < (n:Int) + (m:Int) + 1:=by omega
          have hsumI:(j:Int) + (k:Int) = (t:Int):=by omega
          have HSI:=Lib.hid hsumI
          have HCO:=Lib.hid hcO
          have HFO:=Lib.hid hfO
          have K1:=Lib.hid k1
          have K2:=Lib.hid k2
          have K3:=Lib.hid k3
          have K4:=Lib.hid k4
          have E1:=Lib.hid e1
          have E2:=Lib.hid e2
          have E3:=Lib.hid e3
          have E4:=Lib.hid e4
          have HTO:=Lib.hid hto
          clear hcO hfO hO hY hXb hXY hP hS2 o9 c9 k1 hS1 k2 k3 k4 hS2b e1 e2 e3 e4 hkm hto hin ht hsumI
          have hz1:w.heap.size < wi.heap.size:=Nat.lt_of_lt_of_le (by rw [HSZ.out];omega) HBEN.out.size
          have hz2:w.heap.size + 1 < wi.heap.size:=Nat.lt_of_lt_of_le (by rw [HSZ.out];omega) HBEN.out.size
          have hz3:g0 < wi.heap.size:=HBN.out.lt
          have HZ1:=Lib.hid hz1
          have HZ2:=Lib.hid hz2
          have HZ3:=Lib.hid hz3
          clear hz1 hz2 hz3
          have hor:(decide ((k:Int) < (m:Int)) = true ∧ decide (k < m) = true) ∨ (decide ((k:Int) < (m:Int)) = false ∧ decide (k < m) = false ∧ decide ((0:Int) < (cy:Int)) = true ∧ decide (0 < cy) = true):=by
            by_cases h:k < m
            · exact .inl ⟨decide_eq_true (by omega),decide_eq_true h⟩
            · exact .inr ⟨decide_eq_false (by omega),decide_eq_false h,decide_eq_true (by omega),decide_eq_true (by omega)⟩
          clear hgo
          go_upto_region 7 with fail
          go_cut [34] from 26 to 35 (fun s34 wx=>s34 = .bool true ∧ wi = wx)
          case first =>
            rcases hor with ⟨u1,u2⟩ | ⟨u1,u2,u3,u4⟩
            all_goals
              go_wp2_with fail
              go_meet
              exact ⟨rfl,rfl⟩
          case rest =>
          obtain ⟨rfl,hwx⟩:=hcut
          subst hwx
          clear hor cb
          go_upto_region 9 with fail
          have k1:=K1.out
          have k2:=K2.out
          have k3:=K3.out
          have k4:=K4.out
          have hto:=HTO.out
          obtain ⟨S,SD⟩:∃ S:World → Prop,Go.RowKit.Hid (∀ w':World,S w' ↔ Below wi.heap.size wi w'):=⟨_,Lib.hid (fun _=>Iff.rfl)⟩
          refine wp_region_sure (S:=S) (by kernel_rfl) (by kernel_rfl) ((SD.out _).2 (Below.refl _ _).drew) ?_
          repeat
            (first
              | (refine SureL.no (by rfl) ?_;simp only [Act.put,List.setIfInBounds_toArray,List.set_cons_zero,List.set_cons_succ])
              | (refine' SureL.yes (by rfl) (fun wS hS=>?_) ?_
                 rotate_left
                 · have hBS:=(SD.out _).1 hS
                   have ca:=keepc hBS HZ1.out HCA.out
                   have cb:=keepc hBS HZ2.out HCB.out
                   have cO:=keepc hBS HZ3.out HCO.out
                   have cX:=(HL.out.below (keepb HBWi.out hBS)).figs HJL.out
                   rw [HXX.out] at cX
                   go_simp
                   first
                     | exact ⟨rfl,hS⟩
                     | (with_reducible refine (HAT.out _ (HK.out.below (keepb HBWi.out hBS))).mono ?_;rintro e w' ⟨rfl,hbn⟩;exact ⟨rfl,(SD.out _).2 (keepb hBS hbn)⟩)
                 simp only [Act.put,List.setIfInBounds_toArray,List.set_cons_zero,List.set_cons_succ]))
          refine SureL.nil ?_
          intro wE hE
          have hBE:=(SD.out _).1 hE
          have HBEE:=Lib.hid hBE
          have HNE:=Lib.hid (HBN.out.below hBE HBN.out.lt)
          have cO:=keepc hBE HZ3.out HCO.out
          have fO:=keepf hBE HZ3.out HFO.out
          have e1:=E1.out
          have e2:=E2.out
          have e3:=E3.out
          have e4:=E4.out
          have HB2:=Lib.hid (show Blk (wE.setCell ⟨g0,t,none⟩ (fv (S2 % B4))) g0 3 ((N.set t (S2 % B4)).map fv).toArray by rw [← set_fv];exact HNE.out.set1 t (fv (S2 % B4)))
          have hST:=rmul_step HS2.out (HFS.out (S2 % B4)) HNVt.out
          have HST:=Lib.hid hST
          clear hBE hE SD S hST k1 k2 k3
          generalize S2 % B4 = r at *
          generalize S2 / B4 = q at *
          go_wp2_with fail
          go_roundw
          case rel =>
            refine ⟨k + 1,q,N.set t r,rfl,by go_num,HSB.out,by have:=HKM.out;omega,by simpa using HNL.out,HNF.out.set HSM.out,?_,HB2.out,(keepb HBEN.out HBEE.out).setCell (Nat.le_of_eq HG0.out.symm) _⟩
            rw [HYMk.out]
            have h4:B4 ^ (j + (k + 1)) = B4 ^ t * B4:=by rw [← Nat.add_assoc,HT.out,Nat.pow_succ]
            have h5:B4 ^ t * (X * Y) = B4 ^ j * X * (B4 ^ k * Y):=by rw [← HT.out,Nat.pow_add];ac_rfl
            rw [h4,HST.out,h5,Nat.mul_add (B4 ^ j * X),Nat.add_assoc]
          case measure=>have:=HKM.out;simp [intOf];omega
        · have hkm:m ≤ k:=by omega
          have hc0:cy = 0:=by omega
          subst hc0
          have u1:decide ((k:Int) < (m:Int)) = false:=decide_eq_false (by omega)
          have u1':decide (k < m) = false:=decide_eq_false (by omega)
          have e0:((0:Nat):Int) = 0:=rfl
          have HVN:=Lib.hid (show fval B4 N = x % B4 ^ (j + 1) * y by
            have h:=HNV.out
            rw [Nat.mul_zero,Nat.add_zero,Nat.mod_eq_of_lt (Nat.lt_of_lt_of_le HYL.out (Nat.pow_le_pow_right (by decide) hkm))] at h
            rw [h,HXM.out,Nat.add_mul])
          rw [e0]
          clear hgo hin hkm e0 hcb'
          go_wp2_with fail
          go_roundw
          case rel=>exact ⟨j + 1,N,by go_num,by have:=HJL.out;omega,HNL.out,HNF.out,HVN.out,HBN.out,HBEN.out⟩
          case measure=>have:=HJL.out;simp [intOf];omega
    · obtain rfl:j = n:=by omega
      have t1:decide ((j:Int) < j) = false:=by simp
      have t1':decide (j < j) = false:=by simp
      have HVV:=Lib.hid (show fval B4 M = x * y by rw [HMV.out,HXN.out])
      have HRT:=Lib.hid (show RT wo 3 (some ⟨g0,0,none⟩) (M.map fv) from RT.of_blk HBL.out (fun t ht=>by rw [Nat.zero_add,List.getElem?_toArray,List.getElem?_eq_getElem ht]))
      have htr:=rtrim_any (some ⟨g0,0,none⟩) (j + m + 1) M wo HRT.out HMF.out (by rw [HML.out];exact Nat.le_refl _) (by rw [HML.out];omega)
      rw [HML.out] at htr
      have e2:((j + m + 1:Nat):Int) = (j:Int) + (m:Int) + 1:=by omega
      have HTR:=Lib.hid htr
      have HBKr:Hid (Blk wo (w.heap.size + 2) 180 #[.slice none 0 0]):=HBK.out.below HBE.out (by rw [HSZ.out];omega)
      clear hlt htr e2
      go_wp2_with fail
      refine HTR.out.mono ?_
      rintro e w4 ⟨k4,rfl,hk4,hf4,hb4⟩
      have HB4:=Lib.hid (keepb HBWo.out hb4)
      have HBK4:Hid (Blk w4 (w.heap.size + 2) 180 #[.slice none 0 0]):=HBKr.out.below hb4 HBKr.out.lt
      have HL4:=Lib.hid (show RatL w4 (some ⟨g0,0,none⟩) k4 (j + m + 1) (x * y) from ⟨M.take k4,by rw [← HVV.out];exact hf4,by rw [List.length_take];omega,by have:=(HRT.out.below hb4).take k4;rwa [← List.map_take] at this,by rw [HML.out] at hk4;omega⟩)
      obtain ⟨cc,fc⟩:w4.cell? ⟨w.heap.size + 2,0,none⟩ = some (.slice none 0 0) ∧ w4.frozen? ⟨w.heap.size + 2,0,none⟩ = false:=⟨HBK4.out.cell 0,HBK4.out.frozen 0⟩
      clear hk4 hf4 hb4
      go_wp2_with fail
      have hp:=HBK4.out.put (i:=0) (by simp) (.slice (some ⟨g0,0,none⟩) k4 (j + m + 1))
      exact bodyPost_ret (v:=.agg #[.slice (some ⟨g0,0,none⟩) k4 (j + m + 1)]) (by simp [results,Tryz.results93,go_sem,hp]) rfl ⟨_,_,_,rfl,HL4.out.set HBK4.out (by decide) _,HB4.out.setCell (p:=⟨w.heap.size + 2,0,none⟩) (Nat.le_add_right _ _) _⟩
end Go.Proofs.YtgmholdkdppbmaaGreatDoor
namespace Go.Proofs.YtgmholdkdppbmaaGreatDoor
open Go.RowKit
theorem two_lt {a n N:Nat} (ha:a ≤ 2 * N) (hN:N ≠ 0) (hn:N ≤ n):2 ^ a < B4 ^ n:=by
  have h1:2 ^ a ≤ 2 ^ (2 * N):=Nat.pow_le_pow_right (by decide) ha
  rw [Nat.pow_mul] at h1
  have h2:(2 ^ 2) ^ N < B4 ^ N:=Nat.pow_lt_pow_left (by decide) hN
  exact Nat.lt_of_lt_of_le (Nat.lt_of_le_of_lt h1 h2) (Nat.pow_le_pow_right (by decide) hn)
theorem rproduct_v {N:Nat} (hN:N = 10000) (v u:Value) (x y:Nat) (w:World) (hv:RatW w v x) (hu:RatW w u y) (hx:x < B4 ^ N) (hy:y < B4 ^ N) :
    Calls Tryz.prog 93 #[v,u] w (RatV (x * y) w):=by
  subst hN
  exact rproduct_nat v u x y w hv hu hx hy
theorem b4_lt {y N:Nat} (h:y < B4 ^ 2) (hN:2 ≤ N):y < B4 ^ N:=Nat.lt_of_lt_of_le h (Nat.pow_le_pow_right (by decide) hN)
set_option maxRecDepth 100000 in
set_option maxHeartbeats 2000000 in
theorem rtwo_nat (k:Nat) (w:World) (hk:k ≤ 20000) :
    Calls Tryz.prog 94 #[.int .i64 k] w (RatV (2 ^ k) w):=by
  have HK:=Lib.hid hk
  obtain ⟨N,hN⟩:∃ N,N = 10000:=⟨_,rfl⟩
  have HN:=Lib.hid hN
  clear hN
  have hkI:(k:Int) ≤ 20000:=by omega
  have HB0:=Lib.hid ((Below.refl _ w).alloc (Nat.le_refl _) (.cells #[.slice none 0 0] 180))
  have HBK:=Lib.hid (Blk.new w 180 #[.slice none 0 0])
  obtain ⟨w0,hw0⟩:∃ w0,w.alloc (.cells #[.slice none 0 0] 180) = w0:=⟨_,rfl⟩
  have hsz:w0.heap.size = w.heap.size + 1:=by rw [← hw0];simp
  rw [hw0] at HB0 HBK
  have HO1:=Lib.hid (show Calls Tryz.prog 91 #[.int .u64 1] w0 (RatV 1 w0) from rof_nat 1 w0 (by decide))
  have HSZ:=Lib.hid hsz
  clear hk hsz
  go_enter Tryz.func94,Tryz.ntmps94
  go_wp2_with fail
  refine HO1.out.mono ?_
  rintro e w1 ⟨A,n,c,rfl,hl,hb⟩
  have HL:=Lib.hid hl
  have HBW:=Lib.hid hb
  clear hl hb hw0
  go_wp2_with fail
  obtain ⟨g1,hg1⟩:∃ g,w1.heap.size = g:=⟨_,rfl⟩
  obtain ⟨W0,hW0⟩:∃ W,w1.alloc (.cells #[.slice A n c] 180) = W:=⟨_,rfl⟩
  rw [hg1,hW0]
  have HB1:=Lib.hid (show Blk W0 g1 180 #[.slice A n c] by rw [← hW0,← hg1];exact Blk.new w1 _ _)
  have HBW0:Hid (Below w.heap.size w W0):=Lib.hid (by rw [← hW0];exact (keepb HB0.out HBW.out).trans ((Below.refl _ _).alloc (keepb HB0.out HBW.out).size _))
  have HG1:Hid (w.heap.size < g1):=Lib.hid (by rw [← hg1];exact Nat.lt_of_lt_of_le (by rw [HSZ.out];omega) HBW.out.size)
  have HK0:Hid (Blk W0 w.heap.size 180 #[.slice none 0 0]):=Lib.hid (by rw [← hW0];exact (HBK.out.below HBW.out (by rw [HSZ.out];omega)).below (below_new _ _) (by rw [hg1];exact HG1.out))
  have HL1:Hid (RatL W0 A n c 1):=Lib.hid (by rw [← hW0];exact HL.out.below (below_new _ _))
  clear hg1 hW0
  go_loopw [0] (fun s0 wr=>∃ (j:Nat) (A:Option Addr) (n c:Nat),s0 = .int .i64 j ∧ j ≤ k ∧ Blk wr g1 180 #[.slice A n c] ∧ RatL wr A n c (2 ^ (k - j)) ∧ Blk wr w.heap.size 180 #[.slice none 0 0] ∧ Below w.heap.size w wr) (fun s _=>(intOf s).toNat)
  case atStart=>exact ⟨k,A,n,c,rfl,Nat.le_refl _,HB1.out,by rw [Nat.sub_self];exact HL1.out,HK0.out,HBW0.out⟩
  case round =>
    obtain ⟨j,A,n,c,rfl,hj,hb1,hl,hb0,hbel⟩:=hrel
    have HJ:=Lib.hid hj
    have HBX:=Lib.hid hb1
    have HLX:=Lib.hid hl
    have HBR:=Lib.hid hb0
    have HBE:=Lib.hid hbel
    have hcl:=hb1.cell 0
    have hz:=hb1.lt
    have HZ:=Lib.hid hz
    simp at hcl
    clear hl hb0 hbel hb1
    have HPR:Hid (∀ W u y,Below wr.heap.size wr W → RatW W u y → y < B4 ^ 2 → Calls Tryz.prog 93 #[.agg #[.slice A n c],u] W (RatV (2 ^ (k - j) * y) W)):=Lib.hid (fun W u y hb hu hy=>rproduct_v HN.out _ u _ y W (HLX.out.below hb).w hu (two_lt (N:=N) (by have:=HK.out;have:=HN.out;omega) (by have:=HN.out;omega) (Nat.le_refl _)) (b4_lt hy (by have:=HN.out;omega)))
    have hjI:(j:Int) ≤ 20000:=by omega
    by_cases h13:13 ≤ j
    · obtain ⟨i,hi⟩:∃ i,j = i + 13:=⟨j - 13,by omega⟩
      have HI:=Lib.hid hi
      have t1:decide ((13:Int) ≤ (j:Int)) = true:=decide_eq_true (by omega)
      have t1':decide (13 ≤ j) = true:=decide_eq_true h13
      have e1:(j:Int) - 13 = (i:Int):=by omega
      have HOF:Hid (∀ W,Calls Tryz.prog 91 #[.int .u64 8192] W (RatV 8192 W)):=Lib.hid (fun W=>rof_nat 8192 W (by decide))
      clear hi h13 hj
      go_upto_region 3 with fail
      go_region_with (first
        | (go_at_call 91;refine (HOF.out _).mono ?_;rintro e wa ⟨A2,n2,c2,rfl,hl2,hb2⟩;have HLA:=Lib.hid hl2;have HWA:=Lib.hid (keepb (below_drewN (Below.refl _ _) 1) hb2);have hca:=keepc HWA.out HZ.out hcl;clear hl2 hb2)
        | (go_at_call 93;refine (HPR.out _ _ _ HWA.out HLA.out.w (by decide)).mono ?_;rintro e wb ⟨A3,n3,c3,rfl,hl3,hb3⟩;have HLB:=Lib.hid hl3;have HWB:=Lib.hid (keepb HWA.out hb3);have HBB:=Lib.hid (HBX.out.below HWB.out HZ.out);have hcb:=HBB.out.cell 0;have hfb:=HBB.out.frozen 0;simp at hcb;clear hl3 hb3))
      all_goals
        have HEX:Hid (2 ^ (k - j) * 8192 = 2 ^ (k - i)):=Lib.hid (by rw [show 8192 = 2 ^ 13 from rfl,← Nat.pow_add];congr 1;have:=HI.out;have:=HJ.out;omega)
        go_wp2_with fail
        go_roundw
        case rel=>exact ⟨i,A3,n3,c3,by go_num,by have:=HI.out;have:=HJ.out;omega,HBB.out.set1 0 _,by rw [← HEX.out];exact HLB.out.set HBB.out (by decide) _,(HBR.out.below HWB.out HBR.out.lt).far (p:=⟨g1,0,none⟩) (by have:=HG1.out;simp;omega) _,(keepb HBE.out HWB.out).setCell (p:=⟨g1,0,none⟩) (Nat.le_of_lt HG1.out) _⟩
        case measure=>have:=HI.out;simp [intOf];omega
    · have t1:decide ((13:Int) ≤ (j:Int)) = false:=decide_eq_false (by omega)
      have t1':decide (13 ≤ j) = false:=decide_eq_false h13
      have hj12:(j:Int) ≤ 12:=by omega
      have hr:2 ^ j < 8192:=Nat.pow_lt_pow_right (by decide) (show j < 13 by omega)
      have hone:IntKind.u64.wrap (2 ^ j) = ((2 ^ j:Nat):Int):=by
        have h:=shl_w 1 j
        rw [Nat.one_mul,Nat.mod_eq_of_lt (by unfold W64;omega)] at h
        rw [← Int.one_mul ((2:Int) ^ j)]
        exact h
      have HEX:Hid (2 ^ (k - j) * 2 ^ j = 2 ^ k):=Lib.hid (by rw [← Nat.pow_add];congr 1;have:=HJ.out;omega)
      generalize 2 ^ j = R at *
      have HOF:Hid (∀ W,Calls Tryz.prog 91 #[.int .u64 (R:Int)] W (RatV R W)):=Lib.hid (fun W=>rof_nat R W (by unfold W64;omega))
      have HR:Hid (R < B4 ^ 2):=Lib.hid (Nat.lt_trans hr (by decide))
      have hf0:=HBR.out.frozen 0
      have c0:=HBR.out.cell 0
      clear h13 hj hr
      go_upto_region 5 with fail
      go_region_with (first
        | (go_at_call 91;refine (HOF.out _).mono ?_;rintro e wa ⟨A2,n2,c2,rfl,hl2,hb2⟩;have HLA:=Lib.hid hl2;have HWA:=Lib.hid (keepb (below_drewN (Below.refl _ _) 1) hb2);have hca:=keepc HWA.out HZ.out hcl;clear hl2 hb2)
        | (go_at_call 93;refine (HPR.out _ _ _ HWA.out HLA.out.w HR.out).mono ?_;rintro e wb ⟨A3,n3,c3,rfl,hl3,hb3⟩;have HLB:=Lib.hid hl3;have HWB:=Lib.hid (keepb HWA.out hb3);have HBB:=Lib.hid (HBR.out.below HWB.out HBR.out.lt);have hcb:=HBB.out.cell 0;have hfb:=HBB.out.frozen 0;simp at hcb;clear hl3 hb3))
      all_goals
        go_wp2_with fail
        have hp:=HBB.out.put (i:=0) (by simp) (.slice A3 n3 c3)
        exact bodyPost_ret (v:=.agg #[.slice A3 n3 c3]) (by simp [results,Tryz.results94,go_sem,hp]) rfl ⟨A3,n3,c3,rfl,by rw [← HEX.out];exact HLB.out.set HBB.out (by decide) _,(keepb HBE.out HWB.out).setCell (p:=⟨w.heap.size,0,none⟩) (Nat.le_refl _) _⟩
end Go.Proofs.YtgmholdkdppbmaaGreatDoor
namespace Go.Proofs.YtgmholdkdppbmaaGreatDoor
open Go.RowKit
set_option maxRecDepth 100000 in
theorem rover_small (A:Option Addr) (n c:Nat) (w:World) (hn:n < 617) :
    Calls Tryz.prog 107 #[.agg #[.slice A n c]] w fun e w'=>e = .returned (.bool false) ∧ Below w.heap.size w w':=by
  have t1:decide ((n:Int) < 617) = true:=decide_eq_true (by omega)
  have t1':decide (n < 617) = true:=decide_eq_true hn
  go_enter Tryz.func107,Tryz.ntmps107
  go_wp2_with fail
  exact bodyPost_ret (v:=.bool false) (by simp [results,Tryz.results107,go_sem]) rfl ⟨rfl,by go_grown⟩
theorem rext_drop (b:List UInt8) (i:Nat):(⟨b.toArray⟩:ByteArray).extract i b.length = ⟨(b.drop i).toArray⟩:=by
  apply ByteArray.ext
  rw [ByteArray.data_extract]
  simp
  exact List.take_of_length_le (by simp)
theorem rext_take (b:List UInt8) (i:Nat):(⟨b.toArray⟩:ByteArray).extract 0 i = ⟨(b.take i).toArray⟩:=by
  apply ByteArray.ext
  rw [ByteArray.data_extract]
  simp
theorem dval_cut4 (b:List UInt8) (fr:Nat) (h:(4 < b.length ∧ fr = b.length - 4) ∨ (b.length ≤ 4 ∧ fr = 0)):dval b = dval (b.take fr) * B4 + dval (b.drop fr):=by
  have h1:=dval_append (b.take fr) (b.drop fr)
  rw [List.take_append_drop] at h1
  rcases h with ⟨h,rfl⟩ | ⟨h,rfl⟩
  · rw [h1,List.length_drop,show b.length - (b.length - 4) = 4 by omega];rfl
  · simp [dval_nil]
theorem dval_drop1 (b:List UInt8) (h:dn b 0 = 48):dval (b.drop 1) = dval b:=by
  cases b with
  | nil=>rfl
  | cons c t =>
    have h1:=dval_append [c] t
    have h2:c.toNat = 48:=by simpa [dn] using h
    have h3:dval [c] = 0:=by simp [dval,h2]
    rw [h3,Nat.zero_mul,Nat.zero_add] at h1
    exact h1.symm
theorem dn_digit {s:List UInt8} (hd:∀ c ∈ s,isD c = true) {j:Nat} (hj:j < s.length):48 ≤ dn s j ∧ dn s j ≤ 57:=by
  have:=isD_dn s j hj
  rw [hd _ (List.getElem_mem hj)] at this
  simpa using this.symm
theorem dval_next (a:List UInt8) (fr j:Nat) (h1:fr ≤ j) (h2:j < a.length):dval ((a.drop fr).take (j + 1 - fr)) = 10 * dval ((a.drop fr).take (j - fr)) + (dn a j - 48):=by
  have h3:j + 1 - fr = (j - fr) + 1:=by omega
  have h4:j - fr < (a.drop fr).length:=by rw [List.length_drop];omega
  rw [h3,List.take_succ_eq_append_getElem h4,dval_snoc]
  congr 2
  unfold dn
  rw [List.getElem_drop]
  have h5:fr + (j - fr) = j:=by omega
  simp only [h5]
  simp [List.getD,h2]
def RParse (x:Nat) (w:World) (e:Ending) (w':World):Prop:=∃ A n c b,e = .returned (.tuple #[.agg #[.slice A n c],.bool b]) ∧ RatL w' A n c x ∧ Below w.heap.size w w'
set_option maxRecDepth 100000 in
set_option maxHeartbeats 4000000 in
theorem rparse_any (s:List UInt8) (w:World) (hs:s.length ≤ 801) (hd:∀ c ∈ s,isD c = true) :
    Calls Tryz.prog 90 #[.string ⟨s.toArray⟩] w (RParse (dval s) w):=by
  have HD:=Lib.hid hd
  have HS:=Lib.hid hs
  have HK0:=Lib.hid (Blk.new w 180 #[.slice none 0 0])
  have HB0:=Lib.hid ((Below.refl _ w).alloc (Nat.le_refl _) (.cells #[.slice none 0 0] 180))
  obtain ⟨w0,hw0⟩:∃ w0,w.alloc (.cells #[.slice none 0 0] 180) = w0:=⟨_,rfl⟩
  rw [hw0] at HK0 HB0
  have hsz:w0.heap.size = w.heap.size + 1:=by rw [← hw0];simp
  have HSZ:=Lib.hid hsz
  clear hd hs hsz
  go_enter Tryz.func90,Tryz.ntmps90
  go_wp2_with fail
  clear hw0
  go_loopg [0] s.length (fun k s0 wr=>∃ b:List UInt8,s0 = .string ⟨b.toArray⟩ ∧ b.length = k ∧ k ≤ 801 ∧ (∀ c ∈ b,isD c = true) ∧ dval b = dval s ∧ w0 = wr)
  case atStart=>exact ⟨s,rfl,rfl,HS.out,HD.out,rfl,rfl⟩
  case round =>
    obtain ⟨b,rfl,rfl,hb8,hbd,hbv,hww⟩:=hrel
    subst hww
    have HBD:=Lib.hid hbd
    have HBV:=Lib.hid hbv
    clear hbd hbv
    by_cases hgo:0 < b.length ∧ dn b 0 = 48
    · obtain ⟨h0,h48⟩:=hgo
      have t0:decide ((0:Int) < b.length) = true:=decide_eq_true (by omega)
      have t0':decide (0 < b.length) = true:=decide_eq_true h0
      have hg:=dn_get b 0 h0
      have HV1:Hid (dval b.tail = dval s):=Lib.hid (by rw [← List.drop_one,dval_drop1 b h48];exact HBV.out)
      rw [h48] at hg
      clear h48
      have hex:=rext_drop b 1
      have q:(1:Int) ≤ b.length:=by omega
      go_wp2_with fail
      go_roundg (b.length - 1)
      case measure=>omega
      case rel=>exact ⟨b.tail,rfl,by simp,by omega,fun c hc=>HBD.out c (List.mem_of_mem_tail hc),HV1.out,rfl⟩
    · have hor:(decide ((0:Int) < b.length) = false ∧ decide (0 < b.length) = false) ∨ (∃ (h:0 < b.length) (x:Nat),decide ((0:Int) < b.length) = true ∧ decide (0 < b.length) = true ∧ ((⟨b.toArray⟩:ByteArray)[0]'h).toNat = x ∧ ((x:Int) == 48) = false):=by
        by_cases h0:0 < b.length
        · exact .inr ⟨h0,dn b 0,decide_eq_true (by omega),decide_eq_true h0,dn_get b 0 h0,by rw [beq_eq_false_iff_ne];omega⟩
        · exact .inl ⟨decide_eq_false (by omega),decide_eq_false h0⟩
      have HOR:=Lib.hid hor
      clear hor hgo
      go_upto_region 1 with fail
      go_cut [16] from 9 to 17 (fun s16 wx=>s16 = .bool false ∧ w0 = wx)
      case first =>
        rcases HOR.out with ⟨u1,u2⟩ | ⟨h,x,u1,u2,u3,u4⟩
        all_goals
          go_wp2_with fail
          go_meet
          exact ⟨rfl,rfl⟩
      case rest =>
      obtain ⟨rfl,rfl⟩:=hcut
      clear HOR
      go_wp2_with fail
      go_loopg [0,4] b.length (fun k s0 s4 wr=>∃ (a:List UInt8) (m:List Nat),s0 = .string ⟨a.toArray⟩ ∧ a.length = k ∧ k ≤ 801 ∧ (a.length = 0 ∨ 4 * m.length + a.length ≤ 801) ∧ 4 * m.length ≤ 804 ∧ (∀ c ∈ a,isD c = true) ∧ fval B4 m + B4 ^ m.length * dval a = dval s ∧ Figs B4 m ∧ OwnR wr (w.heap.size + 1) 3 okI s4 m.length (m.map fv) ∧ Blk wr w.heap.size 180 #[.slice none 0 0] ∧ Below w.heap.size w wr)
      case atStart=>exact ⟨b,[],rfl,rfl,hb8,.inr (by simpa using hb8),by simp,HBD.out,by simpa [fval] using HBV.out,Figs.nil _,OwnR.nil _ _ _ _,HK0.out,HB0.out⟩
      case round =>
        obtain ⟨a,m,rfl,rfl,ha8,hm8,hm4,had,hav,hmf,hu,hk,hbe⟩:=hrel
        obtain ⟨wo,rfl⟩:∃ wo:World,wo = wr:=⟨_,rfl⟩
        have HAD:=Lib.hid had
        have HAV:=Lib.hid hav
        have HM8:=Lib.hid hm8
        have HMF:=Lib.hid hmf
        have HU:=Lib.hid hu
        have HK:=Lib.hid hk
        have HBE:=Lib.hid hbe
        obtain ⟨A1,c1,hu',hc1⟩:=hu.shape
        subst hu'
        have HLE:Hid (w.heap.size + 1 ≤ wo.heap.size):=Lib.hid hk.lt
        clear had hav hm8 hmf hu hk hbe
        by_cases h0:0 < a.length
        · have t0:decide ((0:Int) < a.length) = true:=decide_eq_true (by omega)
          have t0':decide (0 < a.length) = true:=decide_eq_true h0
          have hm1:4 * m.length + a.length ≤ 801:=by rcases HM8.out with h | h <;> omega
          obtain ⟨fr,hfr⟩:∃ fr,(4 < a.length ∧ fr = a.length - 4) ∨ (a.length ≤ 4 ∧ fr = 0):=by
            rcases Nat.lt_or_ge 4 a.length with h | h
            · exact ⟨_,.inl ⟨h,rfl⟩⟩
            · exact ⟨_,.inr ⟨h,rfl⟩⟩
          have HFR:=Lib.hid hfr
          have HDC:=Lib.hid (dval_cut4 a fr hfr)
          obtain ⟨tb,htb⟩:∃ tb,decide ((4:Int) < a.length) = tb:=⟨_,rfl⟩
          obtain ⟨tb',htb'⟩:∃ tb,decide (4 < a.length) = tb:=⟨_,rfl⟩
          have htt:tb' = tb:=by rw [← htb,← htb'];exact decide_eq_decide.2 (by omega)
          subst htt
          have HTB:=Lib.hid htb'
          have hfl:fr < a.length:=by omega
          have hf4:a.length ≤ fr + 4:=by omega
          clear hfr
          go_upto_if 28 with fail
          go_cut [5] from 29 to 32 (fun s5 wx=>s5 = .int .i64 fr ∧ wo = wx)
          case first =>
            rcases HFR.out with ⟨h1,h2⟩ | ⟨h1,h2⟩
            · obtain rfl:tb' = true:=by rw [← HTB.out];exact decide_eq_true h1
              have e:(a.length:Int) - 4 = (fr:Int):=by omega
              clear h1 h2
              go_wp2_with fail
              go_meet
              exact ⟨rfl,rfl⟩
            · obtain rfl:tb' = false:=by rw [← HTB.out];exact decide_eq_false (by omega)
              subst h2
              clear h1
              go_wp2_with fail
              go_meet
              exact ⟨rfl,rfl⟩
          case rest =>
          obtain ⟨rfl,rfl⟩:=hcut
          clear htb htb' HTB
          go_wp2_with fail
          go_loop [6,7] (fun s6 s7=>∃ j:Nat,fr ≤ j ∧ j ≤ a.length ∧ s7 = .int .i64 j ∧ s6 = fv (dval ((a.drop fr).take (j - fr)))) (fun _ s7=>a.length - (intOf s7).toNat)
          case atStart=>exact ⟨fr,Nat.le_refl _,by omega,rfl,by rw [Nat.sub_self];rfl⟩
          case round =>
            obtain ⟨j,hfj,hja,rfl,rfl⟩:=hrel
            by_cases hlt:j < a.length
            · have hb:=dn_get a j hlt
              obtain ⟨h48,h57⟩:=dn_digit HAD.out hlt
              have HNX:=Lib.hid (dval_next a fr j hfj hlt)
              have hy:dval ((a.drop fr).take (j - fr)) < 1000:=by
                have h1:=dval_lt ((a.drop fr).take (j - fr)) (fun c hc=>HAD.out c (List.mem_of_mem_drop (List.mem_of_mem_take hc)))
                rw [List.length_take,List.length_drop,Nat.min_eq_left (by omega)] at h1
                have h2:10 ^ (j - fr) ≤ 10 ^ 3:=Nat.pow_le_pow_right (by omega) (by omega)
                omega
              have t4:decide ((j:Int) < a.length) = true:=decide_eq_true (by omega)
              have t4':decide (j < a.length) = true:=decide_eq_true hlt
              have q:(j:Int) < a.length:=by omega
              have hyI:(dval ((a.drop fr).take (j - fr)):Int) < 1000:=by omega
              generalize dn a j = x at *
              generalize dval ((a.drop fr).take (j - fr)) = y at *
              go_wp2_with fail
              go_round
              case rel=>exact ⟨j + 1,by omega,by omega,by go_num,by rw [HNX.out];show Value.int _ _ = Value.int _ _;congr 1;omega⟩
              case measure=>simp [intOf];omega
            · obtain rfl:j = a.length:=by omega
              have t4:decide ((a.length:Int) < a.length) = false:=by simp
              have t4':decide (a.length < a.length) = false:=by simp
              have htk:(a.drop fr).take (a.length - fr) = a.drop fr:=List.take_of_length_le (by simp)
              rw [htk]
              have hX:dval (a.drop fr) < B4:=by
                have h1:=dval_lt (a.drop fr) (fun c hc=>HAD.out c (List.mem_of_mem_drop hc))
                rw [List.length_drop] at h1
                have h2:10 ^ (a.length - fr) ≤ 10 ^ 4:=Nat.pow_le_pow_right (by omega) (by omega)
                unfold B4
                omega
              have HX:=Lib.hid hX
              have HNV:Hid (fval B4 (m ++ [dval (a.drop fr)]) + B4 ^ (m.length + 1) * dval (a.take fr) = dval s):=Lib.hid (by
                rw [← HAV.out,HDC.out,fval_snoc,Nat.pow_succ,Nat.mul_add]
                have:B4 ^ m.length * B4 * dval (a.take fr) = B4 ^ m.length * (dval (a.take fr) * B4):=by ac_rfl
                omega)
              have hex:=rext_take a fr
              have q:(fr:Int) ≤ a.length:=by omega
              clear hlt htk hX
              generalize dval (a.drop fr) = d at *
              go_wp2_with (at_builtin;refine wpList_app ei_int okI0 rfl (.tmp 47) (.tmp 49) rfl (w.heap.size + 1) _ _ _ rfl (HU.out.below (below_new _ _)) _ _ _ _ _ rfl (RV.fresh wo 3 [fv d]) (fun u hu=>by simp at hu;subst hu;rfl) (show m.length + 1 ≤ _ by omega) (show (m.length + 1) * 8 ≤ _ by omega) (by have:=HLE.out;simp;omega) ?_;intro A3 c3 w3 hu3 hg3 ha3)
              go_roundg fr
              case measure=>omega
              case rel=>exact ⟨a.take fr,m ++ [d],by simp,by simp;omega,by omega,by simp;rcases HFR.out with h | h <;> omega,by simp;omega,fun c hc=>HAD.out c (List.mem_of_mem_take hc),by simpa using HNV.out,HMF.out.snoc HX.out,by simpa using hu3,(HK.out.alloc _).grown hg3 (fun h=>HU.out.apart HK.out (by decide) h.symm),(HBE.out.alloc (by have:=HLE.out;omega) _).grown hg3 (by have:=HLE.out;simp;omega) (fun k hk=>by have:=(HU.out.lt k hk).1;omega)⟩
        · obtain rfl:a = []:=List.eq_nil_of_length_eq_zero (by omega)
          have HVV:Hid (fval B4 m = dval s):=Lib.hid (by have:=HAV.out;rwa [dval_nil,Nat.mul_zero,Nat.add_zero] at this)
          have HRT:Hid (RT wo 3 A1 (m.map fv)):=Lib.hid (RT.of_own HU.out)
          have HTR:=Lib.hid (rtrim_any A1 c1 m wo HRT.out HMF.out hc1 (by omega))
          clear h0
          go_wp2_with fail
          refine HTR.out.mono ?_
          rintro e w4 ⟨k4,rfl,hk4,hf4,hb4⟩
          have HBW4:=Lib.hid (keepb HBE.out hb4)
          have HK4:Hid (Blk w4 w.heap.size 180 #[.slice none 0 0]):=Lib.hid (HK.out.below hb4 HK.out.lt)
          have HL4:=Lib.hid (show RatL w4 A1 k4 c1 (dval s) from ⟨m.take k4,by rw [← HVV.out];exact hf4,by rw [List.length_take];omega,by have:=(HRT.out.below hb4).take k4;rwa [← List.map_take] at this,by omega⟩)
          have HOV:=Lib.hid (fun W=>rover_small A1 k4 c1 W (by omega))
          obtain ⟨W5,hW5⟩:∃ W,w4.alloc (.cells #[.slice A1 k4 c1] 180) = W:=⟨_,rfl⟩
          obtain ⟨g5,hg5⟩:∃ g,w4.heap.size = g:=⟨_,rfl⟩
          have HN5:Hid (Blk W5 g5 180 #[.slice A1 k4 c1]):=Lib.hid (by rw [← hW5,← hg5];exact Blk.new w4 _ _)
          have hb5:Below w4.heap.size w4 W5:=by rw [← hW5];exact below_new _ _
          have HL5:=Lib.hid (HL4.out.below hb5)
          have HK5:=Lib.hid (HK4.out.below hb5 HK4.out.lt)
          have HB5:=Lib.hid (keepb HBW4.out hb5)
          clear hk4 hf4 hb4 hb5
          go_upto_region 18 with fail
          have hcn:=HN5.out.cell 0
          have hck:=HK5.out.cell 0
          have hfk:=HK5.out.frozen 0
          simp at hcn hck
          go_region_with (first
            | (go_at_call 107;refine (HOV.out _).mono ?_;rintro e w6 ⟨rfl,hb6⟩;have HB6:=Lib.hid (keepb (below_drewN (Below.refl _ _) 1) hb6);have hcn6:=keepc HB6.out HN5.out.lt hcn;have hck6:=keepc HB6.out HK5.out.lt hck;have hfk6:=keepf HB6.out HK5.out.lt hfk;clear hb6))
          all_goals
            have HK6:=Lib.hid (HK5.out.below HB6.out HK5.out.lt)
            go_wp2_with fail
            have hp:=HK6.out.put (i:=0) (by simp) (.slice A1 k4 c1)
            exact bodyPost_ret (v:=.tuple #[.agg #[.slice A1 k4 c1],.bool true]) (by simp [results,Tryz.results90,go_sem,hp]) rfl ⟨A1,k4,c1,true,rfl,(HL5.out.below HB6.out).set HK6.out (by decide) _,(keepb HB5.out HB6.out).setCell (p:=⟨w.heap.size,0,none⟩) (Nat.le_refl _) _⟩
end Go.Proofs.YtgmholdkdppbmaaGreatDoor
namespace Go.Proofs.YtgmholdkdppbmaaGreatDoor
open Go.RowKit
theorem isF_noughts {x k:Nat} {l:List Nat} (h:IsF B4 x l) (h0:0 < x):IsF B4 (x * B4 ^ k) (List.replicate k 0 ++ l):=by
  have hl:0 < l.length:=(h.pos (by decide)).2 h0
  refine ⟨Figs.append (fun d hd=>by rw [(List.mem_replicate.1 hd).2];decide) h.figs,?_,fun i hi=>?_⟩
  · rw [fval_append,List.length_replicate,fval_zero (fun d hd=>(List.mem_replicate.1 hd).2),h.val,Nat.zero_add,Nat.mul_comm]
  · rw [List.length_append,List.length_replicate] at hi
    have h1:=h.tops (i - k) (by omega)
    rw [List.getD_eq_getElem?_getD,List.getElem?_append_right (by simp;omega),List.length_replicate,← List.getD_eq_getElem?_getD]
    exact h1
theorem b4_ten (k:Nat):B4 ^ k = 10 ^ (4 * k):=by rw [Nat.pow_mul];rfl
set_option maxRecDepth 100000 in
set_option maxHeartbeats 2000000 in
theorem rscaled_nat (v:Value) (x n N:Nat) (w:World) (hv:RatW w v x) (h0:0 < x) (hN:N = 10000) (hx:x * 10 ^ n < B4 ^ N) (hn:n ≤ 10000) :
    Calls Tryz.prog 92 #[v,.int .i64 n] w (RatV (x * 10 ^ n) w):=by
  obtain ⟨A,m,c,rfl,hl⟩:=hv
  have hm:m ≤ N:=hl.len (Nat.lt_of_le_of_lt (Nat.le_mul_of_pos_right _ (Nat.pow_pos (by decide))) hx)
  have hm1:m ≤ 10000:=by omega
  have hmc:m ≤ c:=by obtain ⟨_,_,_,_,h⟩:=hl;exact h
  have HL:=Lib.hid hl
  have HX:=Lib.hid hx
  have HN:=Lib.hid hN
  have H0:=Lib.hid h0
  have e1:(n:Int) / 4 = ((n / 4:Nat):Int):=by omega
  have e2:Int.tdiv (n:Int) 4 = ((n / 4:Nat):Int):=by rw [Int.tdiv_eq_ediv_of_nonneg (by omega)];omega
  have e3:(n:Int) % 4 = ((n % 4:Nat):Int):=by omega
  have e4:Int.tmod (n:Int) 4 = ((n % 4:Nat):Int):=by rw [Int.tmod_eq_emod_of_nonneg (by omega)];omega
  have HQ:Hid (n = 4 * (n / 4) + n % 4 ∧ n / 4 ≤ 2500 ∧ n % 4 < 4):=Lib.hid (by omega)
  have hqI:((n / 4:Nat):Int) ≤ 2500:=by omega
  have hrI:((n % 4:Nat):Int) < 4:=by omega
  have hnI:(n:Int) ≤ 10000:=by omega
  have HB0:=Lib.hid (((Below.refl _ w).alloc (Nat.le_refl _) (.cells #[.slice A m c] 180)).alloc (by simp) (.cells #[.slice none 0 0] 180))
  have HK0:=Lib.hid ((Blk.new w 180 #[.slice A m c]).alloc (.cells #[.slice none 0 0] 180))
  have HJ0:=Lib.hid (show Blk ((w.alloc (.cells #[.slice A m c] 180)).alloc (.cells #[.slice none 0 0] 180)) (w.heap.size + 1) 180 #[.slice none 0 0] by
    have:=Blk.new (w.alloc (.cells #[.slice A m c] 180)) 180 #[.slice none 0 0]
    rwa [World.size_alloc] at this)
  clear hl hx hN h0 hm hn
  obtain ⟨q,hq⟩:∃ q,n / 4 = q:=⟨_,rfl⟩
  obtain ⟨r,hr⟩:∃ r,n % 4 = r:=⟨_,rfl⟩
  rw [hq] at e1 e2 HQ hqI
  rw [hr] at e3 e4 HQ hrI
  clear hq hr
  go_enter Tryz.func92,Tryz.ntmps92
  go_wp2_with fail
  go_loopw [5,6] (fun s5 s6 wr=>∃ k:Nat,s6 = .int .i64 k ∧ k ≤ q ∧ OwnR wr (w.heap.size + 2) 3 okI s5 k ((List.replicate k 0).map fv) ∧ Blk wr w.heap.size 180 #[.slice A m c] ∧ Blk wr (w.heap.size + 1) 180 #[.slice none 0 0] ∧ Below w.heap.size w wr) (fun _ s _=>q - (intOf s).toNat)
  case atStart=>exact ⟨0,rfl,Nat.zero_le _,OwnR.nil _ _ _ _,HK0.out,HJ0.out,HB0.out⟩
  case round =>
    obtain ⟨k,rfl,hk,hu,hb1,hb2,hb⟩:=hrel
    have HU:=Lib.hid hu
    have HK:=Lib.hid hb1
    have HJ:=Lib.hid hb2
    have HB:=Lib.hid hb
    obtain ⟨A1,c1,hu',hc1⟩:=hu.shape
    subst hu'
    have HLE:Hid (w.heap.size + 2 ≤ wr.heap.size):=Lib.hid hb2.lt
    have HKQ:=Lib.hid hk
    have hkI:(k:Int) ≤ 2500:=by omega
    clear hu hb1 hb2 hb
    by_cases hlt:k < q
    · have t1:decide ((k:Int) < (q:Int)) = true:=decide_eq_true (by omega)
      have t1':decide (k < q) = true:=decide_eq_true hlt
      have HLT:=Lib.hid hlt
      have HQ2:=Lib.hid (show k + 1 ≤ 2500 by omega)
      clear hlt hk
      go_wp2_with (at_builtin;refine wpList_app ei_int okI0 rfl (.tmp 14) (.tmp 15) rfl (w.heap.size + 2) _ _ _ rfl (HU.out.below (below_new _ _)) _ _ _ _ _ rfl (RV.fresh wr 3 [fv 0]) (fun u hu=>by simp at hu;subst hu;rfl) (show k + 1 ≤ _ by have:=HQ2.out;omega) (show (k + 1) * 8 ≤ _ by have:=HQ2.out;omega) (by have:=HLE.out;simp;omega) ?_;intro A3 c3 w3 hu3 hg3 ha3)
      go_roundw
      case rel =>
        refine ⟨k + 1,by go_num,HLT.out,?_,(HK.out.alloc _).grown hg3 (fun h=>HU.out.apart HK.out (by decide) h.symm),(HJ.out.alloc _).grown hg3 (fun h=>HU.out.apart HJ.out (by decide) h.symm),(HB.out.alloc (by have:=HLE.out;omega) _).grown hg3 (by have:=HLE.out;simp;omega) (fun k hk=>by have:=(HU.out.lt k hk).1;omega)⟩
        rw [List.replicate_succ',List.map_append]
        exact hu3
      case measure=>have:=HLT.out;simp [intOf];omega
    · obtain rfl:k = q:=by omega
      have t1:decide ((k:Int) < (k:Int)) = false:=by simp
      have t1':decide (k < k) = false:=by simp
      have HLr:=Lib.hid (HL.out.below HB.out)
      obtain ⟨l,hlf,hll,hlr,_⟩:=HLr.out
      have HLF:=Lib.hid hlf
      have HLL:=Lib.hid hll
      have HRV:=Lib.hid (show RV wr wr.heap.size A m (l.map fv) by have:=hlr.rv;rwa [List.length_map,hll] at this)
      obtain ⟨ca,fa⟩:wr.cell? ⟨w.heap.size,0,none⟩ = some (.slice A m c) ∧ wr.frozen? ⟨w.heap.size,0,none⟩ = false:=⟨HK.out.cell 0,HK.out.frozen 0⟩
      clear hlt hk hlf hll hlr
      go_wp2_with (at_builtin;refine wpList_app ei_int okI0 rfl (.tmp 17) (.tmp 19) rfl (w.heap.size + 2) _ _ _ rfl HU.out _ _ _ _ _ rfl HRV.out (fun u hu=>by obtain ⟨y,_,rfl⟩:=List.mem_map.1 hu;rfl) (show k + m ≤ _ by omega) (show (k + m) * 8 ≤ _ by omega) HLE.out ?_;intro A3 c3 w3 hu3 hg3 ha3;have HU3:=Lib.hid hu3;have HK3:=Lib.hid (HK.out.grown hg3 (fun h=>HU.out.apart HK.out (by decide) h.symm));have HJ3:=Lib.hid (HJ.out.grown hg3 (fun h=>HU.out.apart HJ.out (by decide) h.symm));have HB3:=Lib.hid (HB.out.grown hg3 (by have:=HLE.out;omega) (fun k hk=>by have:=(HU.out.lt k hk).1;omega));clear hu3 hg3 ha3;have hf3:=HK3.out.frozen 0;have hc3:=HK3.out.cell 0)
      have HL3:Hid (RatL w3 A3 (k + m) c3 (x * B4 ^ k)):=Lib.hid (by
        refine ⟨List.replicate k 0 ++ l,isF_noughts HLF.out H0.out,by rw [List.length_append,List.length_replicate,HLL.out],?_,?_⟩
        · have:=RT.of_own HU3.out
          rwa [← List.map_append] at this
        · obtain ⟨_,_,he,hle⟩:=HU3.out.shape
          injection he with _ _ h3
          rw [h3];exact hle)
      generalize hm3:k + m = m3 at *
      go_loopw [7] (fun s7 wr=>∃ (j:Nat) (A:Option Addr) (n c:Nat),s7 = .int .i64 j ∧ j ≤ r ∧ Blk wr w.heap.size 180 #[.slice A n c] ∧ RatL wr A n c (x * B4 ^ k * 10 ^ j) ∧ Blk wr (w.heap.size + 1) 180 #[.slice none 0 0] ∧ Below w.heap.size w wr) (fun s _=>r - (intOf s).toNat)
      case atStart=>exact ⟨0,A3,m3,c3,rfl,Nat.zero_le _,HK3.out.set1 0 _,by rw [Nat.pow_zero,Nat.mul_one];exact HL3.out.set HK3.out (by decide) _,HJ3.out.far (p:=⟨w.heap.size,0,none⟩) (by simp) _,HB3.out.setCell (p:=⟨w.heap.size,0,none⟩) (Nat.le_refl _) _⟩
      case round =>
        obtain ⟨j,A4,n4,c4,rfl,hj,hb1,hl,hb0,hbel⟩:=hrel
        have HJJ:=Lib.hid hj
        have HBX:=Lib.hid hb1
        have HLX:=Lib.hid hl
        have HBR:=Lib.hid hb0
        have HBE:=Lib.hid hbel
        have hcl:=hb1.cell 0
        have HZ:=Lib.hid hb1.lt
        simp at hcl
        clear hl hb0 hbel hb1
        by_cases hlt:j < r
        · have t2:decide ((j:Int) < (r:Int)) = true:=decide_eq_true (by omega)
          have t2':decide (j < r) = true:=decide_eq_true hlt
          have HLT:=Lib.hid hlt
          have hjI:(j:Int) < 4:=by omega
          have HOF:Hid (∀ W,Calls Tryz.prog 91 #[.int .u64 10] W (RatV 10 W)):=Lib.hid (fun W=>rof_nat 10 W (by decide))
          have HPR:Hid (∀ W u,Below wr.heap.size wr W → RatW W u 10 → Calls Tryz.prog 93 #[.agg #[.slice A4 n4 c4],u] W (RatV (x * B4 ^ k * 10 ^ (j + 1)) W)):=Lib.hid (fun W u hb hu=>by
            have h:=rproduct_v HN.out _ u _ 10 W (HLX.out.below hb).w hu (by
              refine Nat.lt_of_le_of_lt ?_ HX.out
              rw [b4_ten,Nat.mul_assoc,← Nat.pow_add]
              exact Nat.mul_le_mul_left _ (Nat.pow_le_pow_right (by decide) (by have:=HQ.out;omega))) (b4_lt (by decide) (by have:=HN.out;omega))
            rwa [Nat.mul_assoc,← Nat.pow_succ] at h)
          clear hlt hj
          go_upto_region 10 with fail
          go_region_with (first
            | (go_at_call 91;refine (HOF.out _).mono ?_;rintro e wa ⟨A5,n5,c5,rfl,hl5,hb5⟩;have HLA:=Lib.hid hl5;have HWA:=Lib.hid (keepb (below_drewN (Below.refl _ _) 1) hb5);have hca:=keepc HWA.out HZ.out hcl;clear hl5 hb5)
            | (go_at_call 93;refine (HPR.out _ _ HWA.out HLA.out.w).mono ?_;rintro e wb ⟨A6,n6,c6,rfl,hl6,hb6⟩;have HLB:=Lib.hid hl6;have HWB:=Lib.hid (keepb HWA.out hb6);have HBB:=Lib.hid (HBX.out.below HWB.out HZ.out);have hcb:=HBB.out.cell 0;have hfb:=HBB.out.frozen 0;simp at hcb;clear hl6 hb6))
          all_goals
            go_wp2_with fail
            go_roundw
            case rel=>exact ⟨j + 1,A6,n6,c6,by go_num,HLT.out,HBB.out.set1 0 _,HLB.out.set HBB.out (by decide) _,(HBR.out.below HWB.out HBR.out.lt).far (p:=⟨w.heap.size,0,none⟩) (by simp) _,(keepb HBE.out HWB.out).setCell (p:=⟨w.heap.size,0,none⟩) (Nat.le_refl _) _⟩
            case measure=>have:=HLT.out;simp [intOf];omega
        · obtain rfl:j = r:=by omega
          have t2:decide ((j:Int) < (j:Int)) = false:=by simp
          have t2':decide (j < j) = false:=by simp
          have HVV:Hid (x * B4 ^ k * 10 ^ j = x * 10 ^ n):=Lib.hid (by
            rw [b4_ten,Nat.mul_assoc,← Nat.pow_add,← HQ.out.1])
          have hc2:=HBR.out.cell 0
          have hf2:=HBR.out.frozen 0
          clear hlt hj
          go_wp2_with fail
          have hp:=HBR.out.put (i:=0) (by simp) (.slice A4 n4 c4)
          exact bodyPost_ret (v:=.agg #[.slice A4 n4 c4]) (by simp [results,Tryz.results92,go_sem,hp]) rfl ⟨A4,n4,c4,rfl,by rw [← HVV.out];exact HLX.out.set HBR.out (by decide) _,HBE.out.setCell (p:=⟨w.heap.size + 1,0,none⟩) (by simp) _⟩
end Go.Proofs.YtgmholdkdppbmaaGreatDoor

namespace Go.Proofs.YtgmholdkdppbmaaGreatDoor
open Go.RowKit
set_option maxRecDepth 1000000 in
theorem rfloat_any (b:Nat) (w:World) (hb:b < 9218868437227405312) :
    Calls Tryz.prog 72 #[.int .u64 b] w fun e w'=>e = .returned (.tuple #[.int .u64 (fltM b:Nat),.int .i64 (fltK b)]) ∧ w = w':=by
  have e1:(b:Int) / 4503599627370496 = ((b / 4503599627370496:Nat):Int):=by omega
  have hq:b / 4503599627370496 < 2047:=by omega
  have e2:bits .and .u64 ((b / 4503599627370496:Nat):Int) 2047 = ((b / 4503599627370496:Nat):Int):=by
    have h:=and_low (b / 4503599627370496) 11 (by unfold W64;omega) (by decide)
    rw [Nat.mod_eq_of_lt (by omega)] at h
    exact h
  have e3:bits .and .u64 (b:Int) 4503599627370495 = ((b % 4503599627370496:Nat):Int):=and_low b 52 (by unfold W64;omega) (by decide)
  have hr:b % 4503599627370496 < 4503599627370496:=Nat.mod_lt _ (by decide)
  have hbI:(b:Int) ≤ 9218868437227405312:=by omega
  unfold fltM fltK
  generalize b / 4503599627370496 = q at *
  generalize b % 4503599627370496 = r at *
  have hqI:(q:Int) ≤ 2047:=by omega
  have hrI:(r:Int) < 4503599627370496:=by omega
  clear hb
  by_cases h0:q = 0
  · subst h0
    rw [if_pos rfl,if_pos rfl]
    have e0:((0:Nat):Int) = 0:=rfl
    rw [e0] at e1 e2
    clear hr hq hqI e0
    go_enter Tryz.func72,Tryz.ntmps72
    go_wp2_with fail
    exact bodyPost_ret (v:=.tuple #[.int .u64 (r:Int),.int .i64 (-1074)]) (by simp [results,Tryz.results72,go_sem]) rfl ⟨rfl,rfl⟩
  · have t:((q:Int) == 0) = false:=by rw [beq_eq_false_iff_ne];omega
    rw [if_neg h0,if_neg h0]
    have e4:IntKind.u64.wrap ((r:Int) + 4503599627370496) = ((r + 4503599627370496:Nat):Int):=by rw [show (r:Int) + 4503599627370496 = ((r + 4503599627370496:Nat):Int) by omega];exact wrapN _ (by unfold W64;omega)
    have e5:IntKind.i64.wrap ((q:Int) - 1075) = (q:Int) - 1075:=IntWalk.i64_in _ (by omega)
    clear hr hq h0
    go_enter Tryz.func72,Tryz.ntmps72
    go_wp2_with fail
    exact bodyPost_ret (v:=.tuple #[.int .u64 ((r:Int) + 4503599627370496),.int .i64 ((q:Int) - 1075)]) (by simp [results,Tryz.results72,go_sem]) rfl ⟨rfl,rfl⟩
end Go.Proofs.YtgmholdkdppbmaaGreatDoor
namespace Go.Proofs.YtgmholdkdppbmaaGreatDoor
def agV (d:Dm) (m:Nat) (k:Int):Int:=if d.2.1 = [] then (if m = 0 then 0 else -1) else cmpI (numD (shortD d) * 2 ^ (-k).toNat) (m * denD (shortD d) * 2 ^ k.toNat)
def agF (d:Dm) (b:Nat):Int:=if d.2.1 = [] then (if b = 0 then 0 else -1) else cmpI (numD (shortD d) * 2 ^ 1074) (Fl b * denD (shortD d))
def agH (d:Dm) (b:Nat):Int:=if d.2.1 = [] then -1 else cmpI (2 * (numD (shortD d) * 2 ^ 1074)) ((Fl b + Fl (b + 1)) * denD (shortD d))
theorem cmp_scale (N D m:Nat) (k:Int) (u:Nat) (h:-(u:Int) ≤ k):cmpI (N * 2 ^ (-k).toNat) (m * D * 2 ^ k.toNat) = cmpI (N * 2 ^ u) (m * 2 ^ (k + u).toNat * D):=by
  obtain ⟨j,hj⟩:∃ j,u = (-k).toNat + j:=⟨u - (-k).toNat,by omega⟩
  have h2:(k + u).toNat = k.toNat + j:=by omega
  rw [h2,hj,← cmpI_mul (c:=2 ^ j) (Nat.pow_pos (by decide)),Nat.mul_assoc,← Nat.pow_add,Nat.pow_add 2 k.toNat]
  congr 1
  ac_rfl
theorem agV_at (d:Dm) (b u:Nat) (hu:u = 1074):agV d (fltM b) (fltK b) = if d.2.1 = [] then (if b = 0 then 0 else -1) else cmpI (numD (shortD d) * 2 ^ u) (Fl b * denD (shortD d)):=by
  obtain ⟨h1,_,h3,h4⟩:=flt_form b u hu
  unfold agV
  split
  · simp only [h4]
  · have h:=cmp_scale (numD (shortD d)) (denD (shortD d)) (fltM b) (fltK b) u (by omega)
    rw [h1] at h
    exact h
theorem agV_flt (d:Dm) (b:Nat):agV d (fltM b) (fltK b) = agF d b:=agV_at d b 1074 rfl
theorem agV_hat (d:Dm) (b u:Nat) (hu:u = 1074):agV d (2 * fltM b + 1) (fltK b - 1) = if d.2.1 = [] then -1 else cmpI (2 * (numD (shortD d) * 2 ^ u)) ((Fl b + Fl (b + 1)) * denD (shortD d)):=by
  obtain ⟨_,h2,h3,_⟩:=flt_form b u hu
  unfold agV
  split
  · rw [if_neg (by omega)]
  · have h:=cmp_scale (numD (shortD d)) (denD (shortD d)) (2 * fltM b + 1) (fltK b - 1) (u + 1) (by omega)
    have e:(fltK b - 1 + ((u + 1:Nat):Int)).toNat = (fltK b + (u:Nat)).toNat:=by omega
    have e2:numD (shortD d) * 2 ^ (u + 1) = 2 * (numD (shortD d) * 2 ^ u):=by rw [Nat.pow_succ];ac_rfl
    rw [e,h2,e2] at h
    exact h
theorem agV_half (d:Dm) (b:Nat):agV d (2 * fltM b + 1) (fltK b - 1) = agH d b:=agV_hat d b 1074 rfl
theorem cutB_u (A B u:Nat) (hu:u = 1074):cutB A B = min (flT (A * 2 ^ u / B)) most:=by subst hu;rfl
theorem cutP_u (A B u:Nat) (hu:u = 1074):cutP A B = (cutB A B,cmpI (2 * (A * 2 ^ u)) ((Fl (cutB A B) + Fl (cutB A B + 1)) * B),decide (Fl (cutB A B) * B = A * 2 ^ u)):=by subst hu;rfl
theorem agF_u (d:Dm) (b u:Nat) (hu:u = 1074):agF d b = if d.2.1 = [] then (if b = 0 then 0 else -1) else cmpI (numD (shortD d) * 2 ^ u) (Fl b * denD (shortD d)):=by subst hu;rfl
theorem agH_u (d:Dm) (b u:Nat) (hu:u = 1074):agH d b = if d.2.1 = [] then -1 else cmpI (2 * (numD (shortD d) * 2 ^ u)) ((Fl b + Fl (b + 1)) * denD (shortD d)):=by subst hu;rfl
theorem cut_iff {A B b u:Nat} (hu:u = 1074) (hB:0 < B) (hb:b ≤ most):b ≤ cutB A B ↔ Fl b * B ≤ A * 2 ^ u:=by
  rw [cutB_u A B u hu,Nat.le_min,flT_iff,Nat.le_div_iff_mul_le hB]
  exact ⟨fun h=>h.1,fun h=>⟨h,hb⟩⟩
theorem cmpI_nonneg {a b:Nat}:0 ≤ cmpI a b ↔ b ≤ a:=by
  rcases cmpI_tri a b with ⟨h,e⟩ | ⟨h,e⟩ | ⟨h,e⟩ <;> rw [e] <;> omega
theorem agF_ge {d:Dm} (hd:Bare d) {b:Nat} (hb:b ≤ most):0 ≤ agF d b ↔ b ≤ (floorP d).1:=by
  obtain ⟨u,hu⟩:∃ u,u = 1074:=⟨_,rfl⟩
  rw [agF_u d b u hu]
  by_cases h:d.2.1 = []
  · rw [if_pos h]
    unfold floorP
    rw [if_pos h]
    split <;> simp <;> omega
  · rw [if_neg h,floorP_cut (hd.lead h),cmpI_nonneg]
    exact (cut_iff hu (denD_pos _) hb).symm
theorem agF_exact {d:Dm} (hd:Bare d):(agF d (floorP d).1 = 0) ↔ (floorP d).2.2 = true:=by
  obtain ⟨u,hu⟩:∃ u,u = 1074:=⟨_,rfl⟩
  rw [agF_u d _ u hu]
  by_cases h:d.2.1 = []
  · rw [if_pos h]
    unfold floorP
    rw [if_pos h]
    simp
  · rw [if_neg h,floorP_cut (hd.lead h),cutP_u _ _ u hu]
    simp only [decide_eq_true_eq]
    rcases cmpI_tri (numD (shortD d) * 2 ^ u) (Fl (cutB (numD (shortD d)) (denD (shortD d))) * denD (shortD d)) with ⟨h,e⟩ | ⟨h,e⟩ | ⟨h,e⟩ <;> rw [e] <;> omega
theorem agH_half {d:Dm} (hd:Bare d) (h:d.2.1 ≠ []):agH d (floorP d).1 = (floorP d).2.1:=by
  obtain ⟨u,hu⟩:∃ u,u = 1074:=⟨_,rfl⟩
  rw [agH_u d _ u hu,if_neg h,floorP_cut (hd.lead h),cutP_u _ _ u hu]
theorem half_exact {A B:Nat} (hB:0 < B) (h:(cutP A B).2.2 = true):(cutP A B).2.1 = -1:=by
  obtain ⟨u,hu⟩:∃ u,u = 1074:=⟨_,rfl⟩
  rw [cutP_u _ _ u hu] at *
  simp only [decide_eq_true_eq] at h ⊢
  rw [← h]
  refine cmpI_lt ?_
  have h1:=Nat.mul_lt_mul_of_pos_right (Fl_up (cutB A B)) hB
  rw [Nat.add_mul]
  omega
def upR (g:Bool) (f:Nat) (exact:Bool) (half:Int) (way:Int):Bool :=
  if way = 1 then decide (0 < half) || (half == 0 && f % 2 == 1) else if way = 2 then decide (0 ≤ half) else if way = 4 then g && !exact else if way = 5 then !g && !exact else false
theorem upR_upP {d:Dm} (hd:Bare d) (way:Int):upR d.1 (floorP d).1 (decide (agF d (floorP d).1 = 0)) (agH d (floorP d).1) way = upP d.1 (floorP d) way:=by
  have hx:decide (agF d (floorP d).1 = 0) = (floorP d).2.2:=by
    rw [Bool.eq_iff_iff,decide_eq_true_eq];exact agF_exact hd
  rw [hx]
  by_cases h:d.2.1 = []
  · have e:=hd.2.1 h
    subst e
    have e1:floorP (false,[],0) = (0,0,true):=rfl
    have e2:agH (false,[],0) 0 = -1:=rfl
    rw [e1,e2]
    unfold upR upP
    repeat' split
    all_goals first | rfl | omega
  · rw [agH_half hd h]
    have hc:=floorP_cut (hd.lead h)
    have hr:(floorP d).2.1 = -1 ∨ (floorP d).2.1 = 0 ∨ (floorP d).2.1 = 1:=by obtain ⟨u,hu⟩:∃ u,u = 1074:=⟨_,rfl⟩;rw [hc,cutP_u _ _ u hu];exact cmpI_range _ _
    have he:(floorP d).2.2 = true → (floorP d).2.1 = -1:=by intro hx;rw [hc] at hx ⊢;exact half_exact (denD_pos _) hx
    generalize floorP d = c at *
    obtain ⟨b,h1,x⟩:=c
    simp only at hr he ⊢
    unfold upR upP
    simp only
    by_cases w4:way = 4
    · subst w4;simp
    by_cases w5:way = 5
    · subst w5;simp
    by_cases w1:way = 1
    · subst w1
      rw [if_pos rfl,if_neg (by decide),if_neg (by decide),if_pos rfl]
      cases x with
      | true =>
        have:=he rfl
        subst this
        simp
      | false =>
        rcases hr with rfl | rfl | rfl
        · simp
        · rcases Nat.mod_two_eq_zero_or_one b with h2 | h2 <;> simp [h2]
        · simp
    by_cases w2:way = 2
    · subst w2
      rw [if_neg (by decide),if_pos rfl,if_neg (by decide),if_neg (by decide),if_neg (by decide),if_pos rfl]
      cases x with
      | true =>
        have:=he rfl
        subst this
        simp
      | false=>simp
    rw [if_neg w1,if_neg w2,if_neg w4,if_neg w5,if_neg w4,if_neg w5,if_neg w1,if_neg w2]
theorem roundP_ref {d:Dm} (hd:Bare d) (way:Int):roundP d way = endP d.1 (if upR d.1 (floorP d).1 (decide (agF d (floorP d).1 = 0)) (agH d (floorP d).1) way then (floorP d).1 + 1 else (floorP d).1):=by
  unfold roundP roundC
  rw [upR_upP hd]
end Go.Proofs.YtgmholdkdppbmaaGreatDoor
