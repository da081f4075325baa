/-
  Texts of the proof of 'LexG': LgU, LexV, DecS, RefA, LexW, UtfE, LexX, LexY, LexRA.
-/
import Derived.Test.YtgmholdkdppbmaaGreatDoorLexGAB
import Derived.Test.YtgmholdkdppbmaaGreatDoorLexGAF
import Derived.Test.YtgmholdkdppbmaaGreatDoorLexGAG
import Derived.WalkLawsBesides
import Derived.Deep.LoopGhost
import Derived.Deep.CutBlock
import Derived.Deep.QuietTactic
import Derived.BigQuiet
set_option linter.unusedVariables false
set_option linter.unusedSimpArgs false
namespace Go.Proofs.YtgmholdkdppbmaaGreatDoor.Lx
open Go.RowKit
theorem lnew_anyG (w:World):Calls Tryz.prog 23 #[] w fun e w'=>e = .returned (.pointer (some ⟨w.heap.size,0,none⟩)) ∧
    LxMG (fun k=>k = w.heap.size) w' w.heap.size 0 0 .nilIface (.bool false) .out [] ∧ Below w.heap.size w w':=by
  go_enter Tryz.func23,Tryz.ntmps23
  go_wp2
  go_ret
  exact ⟨rfl,⟨rfl,by decide,by decide,trivial,_,_,_,_,_,_,_,_,_,_,_,Blk.new w _ _,⟨rfl,rfl⟩,TRowG.nil _ _⟩,(Below.refl _ _).alloc (Nat.le_refl _) _⟩
def EndPG (O:Nat → Prop) (w:World) (b P:Nat) (ts:List Tok) (r:List Tok × (Nat × Nat)) (e:Ending) (w':World):Prop :=
  e = .returned (endV r.2) ∧ LxEG (up O w) w' b P (endV r.2) (.bool true) (ts ++ r.1) ∧ Fr O w w'
set_option maxRecDepth 100000 in
set_option maxHeartbeats 1000000 in
theorem lend_anyG (O:Nat → Prop) (b P:Nat) (ts:List Tok) (m:Md) (w:World) (h:LxMG O w b P P .nilIface (.bool false) m ts) (hP:P ≤ 16777216) :
    Calls Tryz.prog 18 #[.pointer (some ⟨b,0,none⟩)] w (EndPG O w b P ts (endM flP P m)):=by
  have HL:=Lib.hid h
  obtain ⟨h1,h2,h3,h4,sv,inn,frv,raw,nm,ch,sy,dg,cd,hg,tk0,h5,h6,h7⟩:=h
  have k0:=h5.cell 0
  have k1:=h5.cell 1
  have k2:=h5.cell 2
  have f2:=h5.frozen 2
  have f1:=h5.frozen 1
  have k4:=h5.cell 4
  have k5:=h5.cell 5
  have k7:=h5.cell 7
  simp at k0 k1 k2 k4 k5 k7
  have b2:=h5.set1 2 (.bool true)
  simp at b2
  have t2:=h7.set h5 2 (.bool true)
  have HB2:=Lib.hid b2
  have HT2:=Lib.hid t2
  have HF2:=Lib.hid ((Fr.refl O w).setCell (p:=⟨b,2,none⟩) h1 (.bool true))
  have HE0:=Lib.hid (fun W=>ends_any 0 W (by decide))
  rw [show ends 0 = false from rfl,show ((0:Nat):Int) = 0 from rfl] at HE0
  have H1:=Lib.hid h1
  have hfin:∀ m,frM m ≠ none → (∀ fr st raw,m ≠ .num fr st raw) → inn = .bool true → nm = .int .i64 0 → endM flP P m = ([],95,P) →
      Calls Tryz.prog 18 #[.pointer (some ⟨b,0,none⟩)] w (EndPG O w b P ts (endM flP P m)):=by
    intro m _ _ hi hn he
    rw [he]
    subst hi hn
    clear h3 h4 h5 h6 h7 b2 t2 HL he h1 h2
    go_enter Tryz.func18,Tryz.ntmps18
    go_wp2_with fail
    refine (HE0.out _).mono ?_
    rintro e w' ⟨rfl,rfl⟩
    go_wp2_with fail
    go_ret
    have b3:=HB2.out.set1 1 (spotE 95 (P:Nat))
    simp at b3
    refine ⟨rfl,⟨.inl H1.out,hP,_,_,_,_,_,_,_,_,_,_,_,b3,?_⟩,HF2.out.setCell (p:=⟨b,1,none⟩) H1.out _⟩
    rw [List.append_nil]
    exact (HT2.out.set HB2.out 1 _).mono up_of
  cases m with
  | out =>
    obtain ⟨rfl,rfl⟩:=h6
    clear hfin h3 h4 h5 h7 b2 t2 HL h1 h2
    go_enter Tryz.func18,Tryz.ntmps18
    go_wp2_with fail
    go_ret
    refine ⟨rfl,⟨.inl H1.out,hP,_,_,_,_,_,_,_,_,_,_,_,HB2.out,?_⟩,HF2.out⟩
    show TRowG _ _ _ ((ts ++ []).map tokV)
    rw [List.append_nil]
    exact HT2.out.mono up_of
  | num fr st raw =>
    obtain ⟨rfl,rfl,rfl,rfl,hr⟩:=h6
    obtain ⟨m1,m2,m3,m4⟩:=h4
    have HE:=Lib.hid (fun W=>ends_any st W m4)
    have hr2:=hr.set h5 2 (.bool true)
    cases he:ends st with
    | false =>
      rw [he] at HE
      have hem:endM flP P (.num fr st raw) = ([],95,P):=by simp only [endM,he];rfl
      rw [hem]
      clear hfin h3 h5 h7 b2 t2 HL h1 h2 hr hr2 m1 m2 m3 m4 he hem
      go_enter Tryz.func18,Tryz.ntmps18
      go_wp2_with fail
      refine (HE.out _).mono ?_
      rintro e w' ⟨rfl,rfl⟩
      go_wp2_with fail
      go_ret
      have b3:=HB2.out.set1 1 (spotE 95 (P:Nat))
      simp at b3
      refine ⟨rfl,⟨.inl H1.out,hP,_,_,_,_,_,_,_,_,_,_,_,b3,?_⟩,HF2.out.setCell (p:=⟨b,1,none⟩) H1.out _⟩
      rw [List.append_nil]
      exact (HT2.out.set HB2.out 1 _).mono up_of
    | true =>
      rw [he] at HE
      have hq:=wrong_none m3 he
      have HFI:=Lib.hid (finish_anyG O b P fr _ _ _ _ _ _ _ _ _ _ _ tk0 _ (ts.map tokV) _ b2 h1 hr2 t2 hq (by omega) (by omega) (by omega) (by rw [List.length_map];simp at h3;omega))
      clear hfin h3 h5 h7 b2 t2 HL h1 h2 hr hr2 m1 m2 m3 m4 hq
      cases hf:flP raw with
      | none =>
        have hem:endM flP P (.num fr st raw) = ([],41,fr):=by simp only [endM,he,if_true,hf]
        rw [hem]
        have HG:=Lib.hid hf
        clear hf hem he
        go_enter Tryz.func18,Tryz.ntmps18
        go_wp2_with fail
        refine (HE.out _).mono ?_
        rintro e w' ⟨rfl,rfl⟩
        go_wp2_with fail
        refine HFI.out.mono ?_
        rintro e w1 ⟨_,g⟩
        obtain ⟨rfl,hb⟩:=g HG.out
        have bb:=HB2.out.below hb HB2.out.lt
        have HBB:=Lib.hid bb
        have HBE:=Lib.hid hb
        have k5:=bb.cell 5
        have k1:=bb.cell 1
        have f1:=bb.frozen 1
        simp at k5 k1
        clear bb hb g
        go_wp2_with fail
        go_ret
        have b3:=HBB.out.set1 1 (spotE 41 (fr:Nat))
        simp at b3
        refine ⟨rfl,⟨.inl H1.out,hP,_,_,_,_,_,_,_,_,_,_,_,b3,?_⟩,(HF2.out.below HBE.out).setCell (p:=⟨b,1,none⟩) H1.out _⟩
        rw [List.append_nil]
        exact ((HT2.out.keep (fun k hk=>HBE.out.block k (town_lt HT2.out.1 k hk))).set HBB.out 1 _).mono up_of
      | some x =>
        have hem:endM flP P (.num fr st raw) = ([⟨fr,P - fr,.num x⟩],0,0):=by simp only [endM,he,if_true,hf]
        rw [hem]
        have HG:=Lib.hid hf
        clear hf hem he
        go_enter Tryz.func18,Tryz.ntmps18
        go_wp2_with fail
        refine (HE.out _).mono ?_
        rintro e w' ⟨rfl,rfl⟩
        go_wp2_with fail
        refine HFI.out.mono ?_
        rintro e w1 ⟨g,_⟩
        obtain ⟨rfl,⟨tk',g1,g2⟩,g3⟩:=g x HG.out
        have k1:=g1.cell 1
        simp at k1
        have HG1:=Lib.hid g1
        have HG2:=Lib.hid g2
        have HG3:=Lib.hid g3
        clear g g1 g2 g3
        go_wp2_with fail
        go_ret
        refine ⟨rfl,⟨.inl H1.out,hP,_,_,_,_,_,_,_,_,_,_,_,HG1.out,?_⟩,HF2.out.trans (HG3.out.mono (fun k _ hk=>by
          rcases hk with rfl | hk
          · exact H1.out
          · exact HT2.out.2 k hk))⟩
        rw [List.map_append]
        exact HG2.out.mono (fun k hk=>by
          rcases hk with hk | hk
          · exact .inl hk
          · exact .inr (by simp at hk;omega))
  | word fr raw=>exact hfin _ (by simp [frM]) (by intros;simp) h6.2.1 h6.2.2.2.1 rfl
  | txt fr says held=>exact hfin _ (by simp [frM]) (by intros;simp) h6.2.1 h6.2.2.2.1 rfl
  | esc fr says=>exact hfin _ (by simp [frM]) (by intros;simp) h6.2.1 h6.2.2.2.1 rfl
  | dig fr says n code high=>exact hfin _ (by simp [frM]) (by intros;simp) h6.2.1 h6.2.2.2.1 rfl
  | sla fr says high=>exact hfin _ (by simp [frM]) (by intros;simp) h6.2.1 h6.2.2.2.1 rfl
  | leu fr says high=>exact hfin _ (by simp [frM]) (by intros;simp) h6.2.1 h6.2.2.2.1 rfl
theorem lend_errG (O:Nat → Prop) (b P:Nat) (no q:Nat) (dn:Value) (ts:List Tok) (w:World) (h:LxEG O w b P (spotE (no:Nat) (q:Nat)) dn ts) :
    Calls Tryz.prog 18 #[.pointer (some ⟨b,0,none⟩)] w fun e w'=>e = .returned (spotE (no:Nat) (q:Nat)) ∧ w = w':=by
  obtain ⟨h1,h2,sv,inn,frv,raw,nm,ch,sy,dg,cd,hg,tk0,h5,h7⟩:=h
  have k1:=h5.cell 1
  simp at k1
  clear h1 h2 h5 h7
  go_enter Tryz.func18,Tryz.ntmps18
  go_wp2_with fail
  go_ret
  exact ⟨rfl,rfl⟩
end Go.Proofs.YtgmholdkdppbmaaGreatDoor.Lx

namespace Go.Proofs.YtgmholdkdppbmaaGreatDoor.Lx
open Go.RowKit
theorem runM_run:∀ (l:List UInt8) (p:Nat) (m:Md),p + l.length ≤ 16777216 → runM p m l = run flP p m l
  | [],_,_,_=>rfl
  | c :: l,p,m,h=>by
    have hs:stepM p m c = step flP p m c:=by unfold stepM;rw [if_neg (by simp at h;omega)]
    unfold runM run
    rw [hs]
    cases step flP p m c with
    | go m' t=>simp only [];rw [runM_run l (p + 1) m' (by simp at h;omega)]
    | bad no q t=>rfl
def refO (s:List UInt8) (en:Bool):Ot :=
  if s.length ≤ 16777216 then rdF flP s en 0
  else if (rdF flP (s.take 16777216) false 0).no = 0 then ⟨(rdF flP (s.take 16777216) false 0).toks,3,16777216,16777216,0⟩ else rdF flP (s.take 16777216) false 0
theorem fin_no {fl:List UInt8 → Option Nat} {s:List UInt8} {i:Nat} {x:Nat × Nat × Nat} {l:List Tok} (hi:i ≤ s.length) (h:run fl i .out (s.drop i) = ⟨l,.inr x⟩):x.1 ≠ 0:=by
  generalize hn:s.length - i = n
  induction n using Nat.strongRecOn generalizing i l with
  | ind n ih =>
    by_cases hl:i < s.length
    · have hr:=run_item fl s i hl
      cases hF:item fl s false i with
      | skip =>
        rw [hF] at hr
        obtain ⟨_,h2⟩:=hr
        rw [h2] at h
        exact ih _ (by omega) (by omega) h rfl
      | tok t t2 =>
        rw [hF] at hr
        obtain ⟨_,h2,h3,_,_,h4⟩:=hr
        rw [h4] at h
        rcases hR:run fl t2 .out (s.drop t2) with ⟨l2,f2⟩
        rw [hR] at h
        injection h with e1 e2
        have e2':f2 = .inr x:=e2
        subst e2'
        exact ih _ (by omega) h3 hR rfl
      | bad no p f =>
        rw [hF] at hr
        obtain ⟨_,h1,h2⟩:=hr
        rw [h2] at h
        injection h with e1 e2
        injection e2 with e2
        rw [← e2]
        exact h1
      | cut =>
        rw [hF] at hr
        obtain ⟨m,h1,_⟩:=hr
        rw [h1] at h
        injection h with e1 e2
        cases e2
    · rw [List.drop_eq_nil_of_le (by omega)] at h
      injection h with e1 e2
      cases e2
theorem refO_run (s:List UInt8):refO s false = (runM 0 .out s).open s.length ∧ refO s true = (runM 0 .out s).shut flP s.length:=by
  unfold refO
  by_cases hl:s.length ≤ 16777216
  · rw [if_pos hl,if_pos hl,runM_run s 0 .out (by omega)]
    have:=rd_run flP s 0 (Nat.zero_le _)
    rwa [List.drop_zero] at this
  · rw [if_neg hl,if_neg hl]
    generalize hM:16777216 = M at *
    have ht:(s.take M).length = M:=by simp;omega
    have h1:runM 0 .out (s.take M) = run flP 0 .out (s.take M):=runM_run _ 0 .out (by omega)
    have hrd:=(rd_run flP (s.take M) 0 (Nat.zero_le _)).1
    rw [List.drop_zero] at hrd
    have happ:=runM_append (s.take M) (s.drop M) 0 .out
    rw [List.take_append_drop] at happ
    rw [h1,ht] at happ
    rcases hR:run flP 0 .out (s.take M) with ⟨l,f⟩
    rw [hR] at happ hrd
    cases f with
    | inl m' =>
      have hdr:∃ c d,s.drop M = c :: d:=by
        cases hd:s.drop M with
        | nil=>have:=congrArg List.length hd;simp at this;omega
        | cons c d=>exact ⟨c,d,rfl⟩
      obtain ⟨c,d,hd⟩:=hdr
      have hb:stepM (0 + M) m' c = .bad 3 M []:=by unfold stepM;rw [if_pos (by omega)];simp
      rw [hd] at happ
      simp only [runM_bad d hb] at happ
      rw [happ,hrd]
      have hz:((⟨l,.inl m'⟩:Rn).open (s.take M).length).no = 0:=rfl
      rw [if_pos hz]
      simp [Rn.open,Rn.shut,Rn.pre]
    | inr x =>
      have hx:x.1 ≠ 0:=fin_no (s:=s.take M) (i:=0) (Nat.zero_le _) (by rw [List.drop_zero];exact hR)
      simp only at happ
      rw [happ,hrd]
      have hz:((⟨l,.inr x⟩:Rn).open (s.take M).length).no = x.1:=rfl
      rw [if_neg (by rw [hz];exact hx)]
      exact ⟨rfl,rfl⟩
theorem own_base {w:World} {base base':Nat} {e:TypeId} {size n:Nat} {v:Value} {xs:List Value} (h:w.ownsRow base e size v n xs) (hk:∀ k,v.ownBlock = some k → base' ≤ k):w.ownsRow base' e size v n xs:=by
  obtain ⟨h1,h2⟩:=h
  refine ⟨h1,?_⟩
  rcases h2 with h2 | ⟨g,cap,cur,hv,hg,hh,r⟩
  · exact .inl h2
  · exact .inr ⟨g,cap,cur,hv,hk g (by rw [hv];rfl),hh,r⟩
theorem Fr.toBelow {O:Nat → Prop} {w w1:World} {B:Nat} (h:Fr O w w1) (hB:B ≤ w.heap.size) (hO:∀ k,k < B → ¬ O k):Below B w w1:=⟨h.os,h.tape,h.output,h.size,fun k hk=>h.block k (by omega) (hO k hk)⟩
end Go.Proofs.YtgmholdkdppbmaaGreatDoor.Lx

namespace Go.Proofs.YtgmholdkdppbmaaGreatDoor
end Go.Proofs.YtgmholdkdppbmaaGreatDoor
namespace Go.Proofs.YtgmholdkdppbmaaGreatDoor
section
variable {l:List UInt8}
theorem dAt_s (i:Nat):dAt (45 :: l) (i + 1) = dAt l i:=by unfold dAt;rw [List.getElem?_cons_succ]
theorem ov_s (i:Nat):ov (45 :: l) (i + 1) = ov l i + 1:=by unfold ov;rw [List.drop_succ_cons];omega
theorem cutL_s (i k:Nat):cutL (45 :: l) (i + 1) (k + 1) = cutL l i k:=by unfold cutL;rw [List.drop_succ_cons,show k + 1 - (i + 1) = k - i by omega]
theorem p0_s (h:l[0]? ≠ some 45):p0 (45 :: l) = p0 l + 1:=by
  unfold p0
  rw [if_pos (by rfl),if_neg h]
theorem p1_s (h:l[0]? ≠ some 45):p1 (45 :: l) = p1 l + 1:=by
  unfold p1
  rw [p0_s h,List.getElem?_cons_succ,ov_s]
  split <;> rfl
theorem pt_s (h:l[0]? ≠ some 45):pt (45 :: l) = pt l:=by unfold pt;rw [p1_s h,List.getElem?_cons_succ]
theorem p2_s (h:l[0]? ≠ some 45):p2 (45 :: l) = p2 l + 1:=by
  unfold p2
  rw [pt_s h,p1_s h,ov_s]
  split <;> rfl
theorem hasE_s (h:l[0]? ≠ some 45):hasE (45 :: l) = hasE l:=by unfold hasE;rw [p2_s h,List.getElem?_cons_succ]
theorem sgn_s (h:l[0]? ≠ some 45):sgn (45 :: l) = sgn l:=by unfold sgn;rw [p2_s h,List.getElem?_cons_succ]
theorem p3_s (h:l[0]? ≠ some 45):p3 (45 :: l) = p3 l + 1:=by
  unfold p3
  rw [sgn_s h,p2_s h]
  split <;> omega
theorem p4_s (h:l[0]? ≠ some 45):p4 (45 :: l) = p4 l + 1:=by
  unfold p4
  rw [hasE_s h,p3_s h,ov_s,p2_s h]
  split <;> rfl
theorem wrongP_s (h:l[0]? ≠ some 45):wrongP (45 :: l) = (wrongP l).map (· + 1):=by
  unfold wrongP
  rw [p0_s h,p1_s h,pt_s h,hasE_s h,p3_s h,p4_s h,dAt_s,dAt_s,dAt_s,List.length_cons]
  split
  · rfl
  · split
    · rfl
    · split
      · rfl
      · by_cases hl:p4 l < l.length
        · rw [if_pos hl,if_pos (by omega)];rfl
        · rw [if_neg hl,if_neg (by omega)];rfl
theorem wholeP_s (h:l[0]? ≠ some 45):wholeP (45 :: l) = wholeP l:=by unfold wholeP;rw [p0_s h,p1_s h,cutL_s]
theorem behindP_s (h:l[0]? ≠ some 45):behindP (45 :: l) = behindP l:=by unfold behindP;rw [pt_s h,p1_s h,p2_s h,cutL_s]
theorem underP_s (h:l[0]? ≠ some 45):underP (45 :: l) = underP l:=by unfold underP;rw [hasE_s h,p2_s h,List.getElem?_cons_succ]
theorem expP_s (h:l[0]? ≠ some 45):expP (45 :: l) = expP l:=by unfold expP;rw [hasE_s h,p3_s h,p4_s h,cutL_s]
end
end Go.Proofs.YtgmholdkdppbmaaGreatDoor
namespace Go.Proofs.YtgmholdkdppbmaaGreatDoor
end Go.Proofs.YtgmholdkdppbmaaGreatDoor
namespace Go.Proofs.YtgmholdkdppbmaaGreatDoor
end Go.Proofs.YtgmholdkdppbmaaGreatDoor

namespace Go.Proofs.YtgmholdkdppbmaaGreatDoor
open Go.RowKit
set_option maxRecDepth 100000 in
theorem rdigit_any (s:List UInt8) (i:Nat) (w:World) (hs:s.length ≤ 140737488353000) (hi:i ≤ 140737488353100) :
    Calls Tryz.prog 75 #[sv s,.int .i64 (i:Int)] w fun e w'=>e = .returned (.bool (dAt s i)) ∧ w = w':=by
  have hsI:((s.length:Nat):Int) ≤ 140737488353000:=by omega
  rcases Nat.lt_or_ge i s.length with h | h
  · have hd:=dAt_get h
    have hb:=bget s i h
    have u1:decide (((i:Nat):Int) < ((s.length:Nat):Int)) = true:=decide_eq_true (by omega)
    have u2:decide (i < s.length) = true:=decide_eq_true h
    have hI:((i:Nat):Int) < ((s.length:Nat):Int):=by omega
    have hx:isD s[i] = (decide (48 ≤ bt s i) && decide (bt s i ≤ 57)):=by
      rw [show bt s i = s[i].toNat by rw [← hb];rfl]
      unfold isD
      rw [Bool.eq_iff_iff];simp
    rw [hx] at hd
    have HD:=Lib.hid hd
    clear hd hx hs hi
    generalize bt s i = y at *
    by_cases h1:48 ≤ y
    · by_cases h2:y ≤ 57
      · have t1:decide ((48:Int) ≤ (y:Int)) = true:=decide_eq_true (by omega)
        have t2:decide ((y:Int) ≤ 57) = true:=decide_eq_true (by omega)
        have HV:=Lib.hid (show dAt s i = true by rw [HD.out,decide_eq_true h1,decide_eq_true h2];rfl)
        clear h1 h2
        unfold sv
        go_enter Tryz.func75,Tryz.ntmps75
        go_wp2_with fail
        go_ret
        exact ⟨by rw [HV.out] <;> rfl,rfl⟩
      · have t1:decide ((48:Int) ≤ (y:Int)) = true:=decide_eq_true (by omega)
        have t2:decide ((y:Int) ≤ 57) = false:=decide_eq_false (by omega)
        have HV:=Lib.hid (show dAt s i = false by rw [HD.out,decide_eq_true h1,decide_eq_false h2];rfl)
        clear h1 h2
        unfold sv
        go_enter Tryz.func75,Tryz.ntmps75
        go_wp2_with fail
        go_ret
        exact ⟨by rw [HV.out] <;> rfl,rfl⟩
    · have t1:decide ((48:Int) ≤ (y:Int)) = false:=decide_eq_false (by omega)
      have HV:=Lib.hid (show dAt s i = false by rw [HD.out,decide_eq_false h1];rfl)
      clear h1
      unfold sv
      go_enter Tryz.func75,Tryz.ntmps75
      go_wp2_with fail
      go_ret
      exact ⟨by rw [HV.out] <;> rfl,rfl⟩
  · have HV:=Lib.hid (dAt_ge h)
    have u1:decide (((i:Nat):Int) < ((s.length:Nat):Int)) = false:=decide_eq_false (by omega)
    have u2:decide (i < s.length) = false:=decide_eq_false (by omega)
    clear h hs hi
    unfold sv
    go_enter Tryz.func75,Tryz.ntmps75
    go_wp2_with fail
    go_ret
    exact ⟨by rw [HV.out] <;> rfl,rfl⟩
set_option maxRecDepth 100000 in
theorem rover_any (s:List UInt8) (i:Nat) (w:World) (hs:s.length ≤ 140737488353000) (hi:i ≤ s.length) :
    Calls Tryz.prog 74 #[sv s,.int .i64 (i:Int)] w fun e w'=>e = .returned (.int .i64 (ov s i:Nat)) ∧ w = w':=by
  have HS:=Lib.hid hs
  have HI:=Lib.hid hi
  have HOV:=Lib.hid (ov_ge s i)
  have HOL:=Lib.hid (ov_le hi)
  clear hs hi
  go_enter Tryz.func74,Tryz.ntmps74
  go_wp2_with fail
  go_loop [1] (fun x=>∃ k:Nat,x = .int .i64 (k:Int) ∧ i ≤ k ∧ k ≤ ov s i) (fun x=>s.length - (intOf x).toNat)
  case atStart=>exact ⟨i,rfl,Nat.le_refl _,HOV.out⟩
  case round =>
    obtain ⟨k,rfl,hk1,hk2⟩:=hrel
    have HK1:=Lib.hid hk1
    have HK2:=Lib.hid hk2
    have HD:=Lib.hid (fun W=>rdigit_any s k W HS.out (by have:=HOL.out;have:=HS.out;omega))
    have hkI:((k:Nat):Int) ≤ 140737488353000:=by have:=HOL.out;have:=HS.out;omega
    cases hd:dAt s k with
    | true =>
      rw [hd] at HD
      have hk3:k + 1 ≤ ov s i:=by
        rcases Nat.lt_or_ge k (ov s i) with h | h
        · exact h
        · have:k = ov s i:=by omega
          rw [this,ov_end] at hd
          cases hd
      have HK3:=Lib.hid hk3
      clear hk1 hk2 hk3 hd
      go_wp2_with fail
      refine (HD.out _).mono ?_
      rintro e w1 ⟨rfl,rfl⟩
      go_wp2_with fail
      go_round
      case rel=>exact ⟨k + 1,by go_num,by have:=HK1.out;omega,HK3.out⟩
      case measure=>have:=HK3.out;have:=HOL.out;simp [intOf];omega
    | false =>
      rw [hd] at HD
      have hke:k = ov s i:=by
        have h1:=ov_ov hk1 hk2
        rw [ov_no hd] at h1
        exact h1
      have HKE:=Lib.hid hke
      clear hk1 hk2 hd hke
      go_wp2_with fail
      refine (HD.out _).mono ?_
      rintro e w1 ⟨rfl,rfl⟩
      go_wp2_with fail
      go_ret
      exact ⟨by rw [← HKE.out] <;> rfl,rfl⟩
theorem ctest (s:List UInt8) (i:Nat) (c:UInt8):(s.length ≤ i ∧ (s[i]? == some c) = false) ∨ (i < s.length ∧ (((bt s i:Nat):Int) == ((c.toNat:Nat):Int)) = (s[i]? == some c)):=by
  rcases Nat.lt_or_ge i s.length with h | h
  · exact .inr ⟨h,bt_is h c⟩
  · left;rw [List.getElem?_eq_none h];exact ⟨h,rfl⟩
end Go.Proofs.YtgmholdkdppbmaaGreatDoor
namespace Go.Proofs.YtgmholdkdppbmaaGreatDoor
open Go.RowKit
theorem noughtsL_cons (c:UInt8) (l:List UInt8):noughtsL (c :: l) = if (some c == some 48) = true then noughtsL l else c :: l:=by
  unfold noughtsL
  rw [List.dropWhile_cons]
  simp
theorem noughtsR_snoc (l:List UInt8) (c:UInt8):noughtsR (l ++ [c]) = if (some c == some 48) = true then noughtsR l else l ++ [c]:=by
  unfold noughtsR
  rw [List.reverse_append,List.reverse_singleton,List.singleton_append,List.dropWhile_cons]
  simp only [Option.some_beq_some,beq_iff_eq]
  split <;> simp
set_option maxRecDepth 100000 in
set_option maxHeartbeats 2000000 in
theorem rstrip_any (g:Bool) (l:List UInt8) (x:Int) (w:World) (hl:l.length ≤ 140737488353000) (hx:-1000000000000000 ≤ x ∧ x ≤ 1000000000000000) :
    Calls Tryz.prog 76 #[decV (g,l,x)] w fun e w'=>e = .returned (decV (stripD (g,l,x))) ∧ Below w.heap.size w w':=by
  have HL:=Lib.hid hl
  have HX:=Lib.hid hx
  have HB0:=Lib.hid (((Below.refl _ w).alloc (Nat.le_refl _) (.cells #[.bool g,.string ⟨l.toArray⟩,.int .i64 x] 134)).alloc (by simp) (.cells #[.bool false,.string ⟨#[]⟩,.int .i64 0] 134))
  have HK0:=Lib.hid ((Blk.new w 134 #[.bool g,.string ⟨l.toArray⟩,.int .i64 x]).alloc (.cells #[.bool false,.string ⟨#[]⟩,.int .i64 0] 134))
  have HJ0:=Lib.hid (Blk.new2 w 134 #[.bool false,.string ⟨#[]⟩,.int .i64 0] (.cells #[.bool g,.string ⟨l.toArray⟩,.int .i64 x] 134))
  have HN:=Lib.hid (noughtsL_le l)
  clear hl hx
  have HSD:=Lib.hid (show stripD (g,l,x) = if noughtsR (noughtsL l) = [] then (false,[],0) else (g,noughtsR (noughtsL l),x + (noughtsL l).length - (noughtsR (noughtsL l)).length) from rfl)
  generalize stripD (g,l,x) = sd at *
  obtain ⟨sd0,sd1,sd2⟩:=sd
  unfold decV sv
  go_enter Tryz.func76,Tryz.ntmps76
  go_upto_block 0 with fail
  go_cut [3] from 3 to 17 (fun s3 wx=>Blk wx w.heap.size 134 #[.bool g,.string ⟨(noughtsL l).toArray⟩,.int .i64 x] ∧ Blk wx (w.heap.size + 1) 134 #[.bool false,.string ⟨#[]⟩,.int .i64 0] ∧ Below w.heap.size w wx)
  case first =>
    go_wp2_with fail
    go_loopg [3,4,5,6,7,8,9,10,11,12,13,14,15,16] l.length (fun n s3 s4 s5 s6 s7 s8 s9 s10 s11 s12 s13 s14 s15 s16 wr=>∃ m:List UInt8,noughtsL m = noughtsL l ∧ m.length = n ∧ n ≤ l.length ∧ Blk wr w.heap.size 134 #[.bool g,.string ⟨m.toArray⟩,.int .i64 x] ∧ Blk wr (w.heap.size + 1) 134 #[.bool false,.string ⟨#[]⟩,.int .i64 0] ∧ Below w.heap.size w wr)
    case atStart=>exact ⟨l,rfl,rfl,Nat.le_refl _,HK0.out,HJ0.out,HB0.out⟩
    case round =>
      obtain ⟨m,hm,rfl,hml,hk,hj,hb⟩:=hrel
      have HM:=Lib.hid hm
      have HK:=Lib.hid hk
      have HJ:=Lib.hid hj
      have HB:=Lib.hid hb
      have hmI:((m.length:Nat):Int) ≤ 140737488353000:=by have:=HL.out;omega
      have HML:=Lib.hid hml
      clear hm hml hb hj
      cases m with
      | nil =>
        obtain ⟨c0,c1,c2,f0,f1,f2⟩:=hk.three
        have HE:=Lib.hid (show noughtsL l = [] from HM.out.symm)
        clear hk
        go_wp2_with fail
        go_meet
        exact ⟨by rw [HE.out];exact HK.out,HJ.out,HB.out⟩
      | cons c r =>
        obtain ⟨c0,c1,c2,f0,f1,f2⟩:=hk.three
        have h0:0 < (c :: r).length:=by simp
        have hb0:=bget (c :: r) 0 h0
        have ht:(((bt (c :: r) 0:Nat):Int) == 48) = (some c == some 48):=bt_is h0 48
        have hI:(0:Int) < (((c :: r).length:Nat):Int):=by omega
        have hI1:(1:Int) ≤ (((c :: r).length:Nat):Int):=by omega
        have u1:decide ((0:Int) < (((c :: r).length:Nat):Int)) = true:=decide_eq_true hI
        have u2:decide (0 < (c :: r).length) = true:=decide_eq_true h0
        have hext:(⟨(c :: r).toArray⟩:ByteArray).extract 1 (c :: r).length = ⟨r.toArray⟩:=by
          rw [ext_cut];unfold cutL;rw [List.drop_one,List.tail_cons,List.take_of_length_le (by simp)]
        have hcons:=noughtsL_cons c r
        have HLEN:=Lib.hid (show (c :: r).length = r.length + 1 from rfl)
        clear hk
        generalize hmm:c :: r = m at *
        cases hc:(some c == some (48:UInt8)) with
        | true =>
          rw [hc] at ht hcons
          have HR:=Lib.hid (show noughtsL r = noughtsL l by rw [← HM.out,hcons];rfl)
          clear hc hcons hmm
          go_wp2_with fail
          go_roundg r.length
          case rel=>exact ⟨r,HR.out,rfl,by have:=HML.out;have:=HLEN.out;omega,HK.out.set1 1 _,HJ.out.far (p:=⟨w.heap.size,1,none⟩) (by simp) _,HB.out.setCell (p:=⟨w.heap.size,1,none⟩) (Nat.le_refl _) _⟩
          case measure=>have:=HLEN.out;omega
        | false =>
          rw [hc] at ht hcons
          have HE:=Lib.hid (show noughtsL l = m by rw [← HM.out,hcons];rfl)
          clear hc hcons hmm
          go_wp2_with fail
          go_meet
          exact ⟨by rw [HE.out];exact HK.out,HJ.out,HB.out⟩
  case rest =>
  obtain ⟨hk,hj,hb⟩:=hcut
  have HK1:=Lib.hid hk
  have HJ1:=Lib.hid hj
  have HB1:=Lib.hid hb
  clear hk hj hb
  have HLL:=Lib.hid (show (noughtsL l).length ≤ 140737488353000 by have:=HN.out;have:=HL.out;omega)
  generalize noughtsL l = L at *
  go_wp2_with fail
  go_loopg [17,18,19,20,21,22,23,24,25,26,27,28,29,30,31,32,33,34,35,36,37,38,39,40,41,42] L.length (fun n s17 s18 s19 s20 s21 s22 s23 s24 s25 s26 s27 s28 s29 s30 s31 s32 s33 s34 s35 s36 s37 s38 s39 s40 s41 s42 wr=>∃ (m:List UInt8) (y:Int),noughtsR m = noughtsR L ∧ m.length = n ∧ n ≤ L.length ∧ y = x + L.length - m.length ∧ Blk wr w.heap.size 134 #[.bool g,.string ⟨m.toArray⟩,.int .i64 y] ∧ Blk wr (w.heap.size + 1) 134 #[.bool false,.string ⟨#[]⟩,.int .i64 0] ∧ Below w.heap.size w wr)
  case atStart=>exact ⟨L,x,rfl,rfl,Nat.le_refl _,by omega,HK1.out,HJ1.out,HB1.out⟩
  case round =>
    obtain ⟨m,y,hm,rfl,hml,hy,hk,hj,hb⟩:=hrel
    have HM:=Lib.hid hm
    have HK:=Lib.hid hk
    have HJ:=Lib.hid hj
    have HB:=Lib.hid hb
    have HML:=Lib.hid hml
    have HY:=Lib.hid hy
    have hmI:((m.length:Nat):Int) ≤ 140737488353000:=by have:=HLL.out;omega
    have hy1:-1000000000000000 ≤ y:=by have:=HX.out;omega
    have hy2:y ≤ 1200000000000000:=by have:=HX.out;have:=HLL.out;omega
    clear hm hml hy hb
    obtain ⟨c0,c1,c2,f0,f1,f2⟩:=hk.three
    obtain ⟨a0,a1,a2,b0,b1,b2⟩:=hj.three
    clear hk hj
    rcases List.eq_nil_or_concat m with hmn | ⟨r,c,hmc⟩
    · subst hmn
      have HE:=Lib.hid (show (sd0,sd1,sd2) = (false,[],0) by rw [HSD.out,← HM.out];rfl)
      go_wp2_with fail
      obtain ⟨e0,e1,e2⟩:=HJ.out.put3 (.bool false) (.string ⟨#[]⟩) (.int .i64 0)
      exact bodyPost_ret (v:=.agg #[.bool false,.string ⟨#[]⟩,.int .i64 0]) (by simp [results,Tryz.results76,go_sem,e0,e1,e2]) rfl ⟨(congrArg (fun d:Dm=>Ending.returned (decV d)) HE.out).symm,below_put3 HB.out (by omega) _ _ _⟩
    · rw [List.concat_eq_append] at hmc
      have hlen:m.length = r.length + 1:=by rw [hmc,List.length_append];rfl
      have hr:r.length < m.length:=by omega
      have hb0:=bget m r.length hr
      have hget:m[r.length]? = some c:=by rw [hmc];simp
      have ht:(((bt m r.length:Nat):Int) == 48) = (some c == some 48):=by rw [← hget];exact bt_is hr 48
      have hk1:((m.length:Nat):Int) - 1 = ((r.length:Nat):Int):=by omega
      have hI:(0:Int) < ((m.length:Nat):Int):=by omega
      have hrI:((r.length:Nat):Int) < ((m.length:Nat):Int):=by omega
      have hrI2:((r.length:Nat):Int) ≤ ((m.length:Nat):Int):=by omega
      have u1:decide ((0:Int) < ((m.length:Nat):Int)) = true:=decide_eq_true hI
      have u2:decide (0 < m.length) = true:=decide_eq_true (by omega)
      have u3:(((m.length:Nat):Int) == 0) = false:=by rw [beq_eq_false_iff_ne];omega
      have u4:(m.length == 0) = false:=by rw [beq_eq_false_iff_ne];omega
      have hext:(⟨m.toArray⟩:ByteArray).extract 0 r.length = ⟨r.toArray⟩:=by
        rw [ext_cut];unfold cutL;rw [hmc];simp
      have hcons:noughtsR m = if (some c == some 48) = true then noughtsR r else m:=by
        rw [hmc];exact noughtsR_snoc r c
      have hmne:m ≠ []:=by rw [hmc];simp
      have HNE:=Lib.hid hmne
      have HLEN:=Lib.hid hlen
      clear hmc hget hlen hmne
      cases hc:(some c == some (48:UInt8)) with
      | true =>
        rw [hc] at ht hcons
        have HR:=Lib.hid (show noughtsR r = noughtsR L by rw [← HM.out,hcons];rfl)
        clear hc hcons a0 a1 a2 b0 b1 b2
        go_wp2_with fail
        go_roundg r.length
        case rel=>exact ⟨r,y + 1,HR.out,rfl,by have:=HML.out;have:=HLEN.out;omega,by have:=HY.out;have:=HLEN.out;omega,(HK.out.set1 1 _).set1 2 _,(HJ.out.far (p:=⟨w.heap.size,1,none⟩) (by simp) _).far (p:=⟨w.heap.size,2,none⟩) (by simp) _,(HB.out.setCell (p:=⟨w.heap.size,1,none⟩) (Nat.le_refl _) _).setCell (p:=⟨w.heap.size,2,none⟩) (Nat.le_refl _) _⟩
        case measure=>have:=HLEN.out;omega
      | false =>
        rw [hc] at ht hcons
        have HE:=Lib.hid (show (sd0,sd1,sd2) = (g,m,y) by
          have e:noughtsR L = m:=by rw [← HM.out,hcons];rfl
          rw [HSD.out,e,if_neg HNE.out,← HY.out])
        clear hc hcons
        go_wp2_with fail
        obtain ⟨e0,e1,e2⟩:=HJ.out.put3 (.bool g) (.string ⟨m.toArray⟩) (.int .i64 y)
        exact bodyPost_ret (v:=.agg #[.bool g,.string ⟨m.toArray⟩,.int .i64 y]) (by simp [results,Tryz.results76,go_sem,e0,e1,e2]) rfl ⟨(congrArg (fun d:Dm=>Ending.returned (decV d)) HE.out).symm,below_put3 HB.out (by omega) _ _ _⟩
end Go.Proofs.YtgmholdkdppbmaaGreatDoor
namespace Go.Proofs.YtgmholdkdppbmaaGreatDoor
open Go.RowKit
attribute [local go_sem] SGives_value SGives_skip SGives_enter
def bodyL (s:List UInt8):List UInt8:=if negP s then s.tail else s
structure Body (s r:List UInt8):Prop where
  ok:wrongP r = none
  p0:p0 r = 0
  d0:dAt r 0 = true
  le:r.length ≤ s.length
  neg:negP s = true → s = 45 :: r
  pos:negP s = false → s = r
  bare:bareP s = stripD (negP s,wholeP r ++ behindP r,(if underP r then -(capE (expP r):Int) else (capE (expP r):Int)) - (behindP r).length)
  i1:ov r 0 = p1 r
theorem valid_d0 {r:List UInt8} (h:wrongP r = none):dAt r (p0 r) = true:=by
  unfold wrongP at h
  cases hd:dAt r (p0 r) with
  | true=>rfl
  | false=>rw [if_pos hd] at h;cases h
theorem valid_pt {r:List UInt8} (h:wrongP r = none) (hp:pt r = true):dAt r (p1 r + 1) = true:=by
  have h0:=valid_d0 h
  unfold wrongP at h
  rw [if_neg (by rw [h0];simp)] at h
  cases hd:dAt r (p1 r + 1) with
  | true=>rfl
  | false=>rw [if_pos ⟨hp,hd⟩] at h;cases h
theorem valid_e {r:List UInt8} (h:wrongP r = none):(hasE r = true → dAt r (p3 r) = true) ∧ r.length ≤ p4 r:=by
  have h0:=valid_d0 h
  have h1:=valid_pt h
  unfold wrongP at h
  rw [if_neg (by rw [h0];simp),if_neg (fun k=>by rw [h1 k.1] at k;exact absurd k.2 (by simp))] at h
  split at h
  · cases h
  · rename_i hn
    refine ⟨fun he=>?_,?_⟩
    · cases hd:dAt r (p3 r) with
      | true=>rfl
      | false=>exact absurd ⟨he,hd⟩ hn
    · split at h
      · cases h
      · omega
theorem valid_nought {r:List UInt8} (h:wrongP r = none) (hp:p0 r = 0):ov r 0 = p1 r:=by
  unfold p1
  rw [hp]
  split
  · rename_i h48
    have h0:dAt r 0 = true:=by have:=valid_d0 h;rwa [hp] at this
    rw [ov_yes h0]
    rw [ov_no]
    cases hd:dAt r (0 + 1) with
    | false=>rfl
    | true =>
      exfalso
      have hp1:p1 r = 1:=by unfold p1;rw [hp,if_pos h48]
      have hl:=dAt_lt hd
      have hg:=dAt_get hl
      rw [hd] at hg
      have hne:∀ c:UInt8,isD c = false → (r[1]? == some c) = false:=by
        intro c hc
        rw [List.getElem?_eq_getElem hl]
        rw [beq_eq_false_iff_ne]
        intro hh
        injection hh with hh
        rw [hh,hc] at hg
        cases hg
      have hpt:pt r = false:=by unfold pt;rw [hp1];exact hne 46 (by decide)
      have hp2:p2 r = 1:=by unfold p2;rw [hpt];exact hp1
      have he:hasE r = false:=by unfold hasE;rw [hp2,hne 101 (by decide),hne 69 (by decide)];rfl
      have hp4:p4 r = 1:=by unfold p4;rw [he];exact hp2
      have:=(valid_e h).2
      omega
  · rfl
theorem bodyL_ok {s:List UInt8} (h:wrongP s = none):Body s (bodyL s):=by
  unfold bodyL
  cases hn:negP s with
  | true =>
    cases s with
    | nil=>cases hn
    | cons c r =>
      have hc:c = 45:=by
        unfold negP at hn
        simpa using hn
      subst hc
      simp only [if_true,List.tail_cons]
      have hr:r[0]? ≠ some 45:=by
        intro hr
        have hd:=valid_d0 h
        have hp:p0 (45 :: r) = 1:=by unfold p0;rw [if_pos (by rfl)]
        rw [hp,dAt_s 0] at hd
        unfold dAt at hd
        rw [hr] at hd
        cases hd
      have hok:wrongP r = none:=by
        rw [wrongP_s hr] at h
        cases hh:wrongP r with
        | none=>rfl
        | some q=>rw [hh] at h;cases h
      have hp0:p0 r = 0:=by unfold p0;rw [if_neg hr]
      refine ⟨hok,hp0,by have:=valid_d0 hok;rwa [hp0] at this,by simp,(fun _=>rfl),(fun k=>by rw [hn] at k;cases k),?_,valid_nought hok hp0⟩
      show stripD (negP (45 :: r),wholeP (45 :: r) ++ behindP (45 :: r),_) = _
      rw [wholeP_s hr,behindP_s hr,underP_s hr,expP_s hr]
  | false =>
    simp only [Bool.false_eq_true,if_false]
    have hp0:p0 s = 0:=by unfold negP at hn;unfold p0;rw [if_neg (by simpa using hn)]
    exact ⟨h,hp0,by have:=valid_d0 h;rwa [hp0] at this,Nat.le_refl _,(fun k=>by rw [hn] at k;cases k),(fun _=>rfl),rfl,valid_nought h hp0⟩
end Go.Proofs.YtgmholdkdppbmaaGreatDoor

namespace Go.Proofs.YtgmholdkdppbmaaGreatDoor.Lx
open Go.RowKit
set_option maxRecDepth 100000 in
theorem rblank_any (c:UInt8) (w:World):Calls Tryz.prog 13 #[.int .u8 (c.toNat:Int)] w fun e w'=>e = .returned (.bool (blankB c)) ∧ w = w':=by
  have h1:((c.toNat:Int) == 32) = (c == UInt8.ofNat 32):=beq_c c 32 (by decide)
  have h2:((c.toNat:Int) == 9) = (c == UInt8.ofNat 9):=beq_c c 9 (by decide)
  have h3:((c.toNat:Int) == 10) = (c == UInt8.ofNat 10):=beq_c c 10 (by decide)
  have h4:((c.toNat:Int) == 13) = (c == UInt8.ofNat 13):=beq_c c 13 (by decide)
  have hb:blankB c = (c == UInt8.ofNat 32 || c == UInt8.ofNat 9 || c == UInt8.ofNat 10 || c == UInt8.ofNat 13):=rfl
  rw [hb]
  generalize (c == UInt8.ofNat 32) = b1 at *
  generalize (c == UInt8.ofNat 9) = b2 at *
  generalize (c == UInt8.ofNat 10) = b3 at *
  generalize (c == UInt8.ofNat 13) = b4 at *
  clear hb
  generalize (c.toNat:Int) = C at *
  go_enter Tryz.func13,Tryz.ntmps13
  cases b1 <;> cases b2 <;> cases b3 <;> cases b4 <;> (go_wp2;go_ret;exact ⟨rfl,rfl⟩)
set_option maxRecDepth 100000 in
theorem rmark_yes (c:UInt8) (w:World) (hc:markB c = true):Calls Tryz.prog 39 #[.int .u8 (c.toNat:Int)] w fun e w'=>e = .returned (.bool true) ∧ w = w':=by
  have hm:c.toNat = 123 ∨ c.toNat = 125 ∨ c.toNat = 91 ∨ c.toNat = 93 ∨ c.toNat = 58 ∨ c.toNat = 44:=by
    unfold markB at hc
    simp at hc
    rcases hc with ((((rfl | rfl) | rfl) | rfl) | rfl) | rfl <;> decide
  generalize c.toNat = C at *
  rcases hm with rfl | rfl | rfl | rfl | rfl | rfl <;> (go_enter Tryz.func39,Tryz.ntmps39;go_wp2;go_ret;exact ⟨rfl,rfl⟩)
set_option maxRecDepth 100000 in
theorem rmark_no (c:UInt8) (w:World) (hm0:markB c = false):Calls Tryz.prog 39 #[.int .u8 (c.toNat:Int)] w fun e w'=>e = .returned (.bool false) ∧ w = w':=by
  unfold markB at hm0
  simp at hm0
  obtain ⟨⟨⟨⟨⟨m1,m2⟩,m3⟩,m4⟩,m5⟩,m6⟩:=hm0
  have t1:((c.toNat:Int) == 123) = false:=by have:=bit_byte c 123;rw [decide_eq_false m1] at this;exact this
  have t2:((c.toNat:Int) == 125) = false:=by have:=bit_byte c 125;rw [decide_eq_false m2] at this;exact this
  have t3:((c.toNat:Int) == 91) = false:=by have:=bit_byte c 91;rw [decide_eq_false m3] at this;exact this
  have t4:((c.toNat:Int) == 93) = false:=by have:=bit_byte c 93;rw [decide_eq_false m4] at this;exact this
  have t5:((c.toNat:Int) == 58) = false:=by have:=bit_byte c 58;rw [decide_eq_false m5] at this;exact this
  have t6:((c.toNat:Int) == 44) = false:=by have:=bit_byte c 44;rw [decide_eq_false m6] at this;exact this
  clear m1 m2 m3 m4 m5 m6
  generalize (c.toNat:Int) = C at *
  go_enter Tryz.func39,Tryz.ntmps39
  go_wp2
  go_ret
  exact ⟨rfl,rfl⟩
set_option maxRecDepth 100000 in
theorem rname_any (c:UInt8) (w:World):Calls Tryz.prog 40 #[.int .u8 (c.toNat:Int)] w fun e w'=>e = .returned (.string ⟨(wordOf c).toArray⟩) ∧ w = w':=by
  have h1:((c.toNat:Int) == 110) = decide (c = 110):=bit_byte c 110
  have h2:((c.toNat:Int) == 116) = decide (c = 116):=bit_byte c 116
  have h3:((c.toNat:Int) == 102) = decide (c = 102):=bit_byte c 102
  unfold wordOf
  generalize (c.toNat:Int) = C at *
  by_cases d1:c = 110
  · rw [decide_eq_true d1] at h1
    rw [if_pos d1]
    go_enter Tryz.func40,Tryz.ntmps40
    go_wp2
    go_ret
    exact ⟨rfl,rfl⟩
  rw [decide_eq_false d1] at h1
  rw [if_neg d1]
  by_cases d2:c = 116
  · rw [decide_eq_true d2] at h2
    rw [if_pos d2]
    go_enter Tryz.func40,Tryz.ntmps40
    go_wp2
    go_ret
    exact ⟨rfl,rfl⟩
  rw [decide_eq_false d2] at h2
  rw [if_neg d2]
  by_cases d3:c = 102
  · rw [decide_eq_true d3] at h3
    rw [if_pos d3]
    go_enter Tryz.func40,Tryz.ntmps40
    go_wp2
    go_ret
    exact ⟨rfl,rfl⟩
  rw [decide_eq_false d3] at h3
  rw [if_neg d3]
  go_enter Tryz.func40,Tryz.ntmps40
  go_wp2
  go_ret
  exact ⟨rfl,rfl⟩
set_option maxRecDepth 100000 in
theorem ldigit_any (s:List UInt8) (i:Nat) (w:World) (hs:s.length ≤ 140737488353000) (hi:i ≤ 140737488353100) :
    Calls Tryz.prog 43 #[sv s,.int .i64 (i:Int)] w fun e w'=>e = .returned (.bool (dAt s i)) ∧ w = w':=by
  have hsI:((s.length:Nat):Int) ≤ 140737488353000:=by omega
  rcases Nat.lt_or_ge i s.length with h | h
  · have hd:=dAt_get h
    have hb:=bget s i h
    have u1:decide (((i:Nat):Int) < ((s.length:Nat):Int)) = true:=decide_eq_true (by omega)
    have u2:decide (i < s.length) = true:=decide_eq_true h
    have hI:((i:Nat):Int) < ((s.length:Nat):Int):=by omega
    have hx:isD s[i] = (decide (48 ≤ bt s i) && decide (bt s i ≤ 57)):=by
      rw [show bt s i = s[i].toNat by rw [← hb];rfl]
      unfold isD
      rw [Bool.eq_iff_iff];simp
    rw [hx] at hd
    have HD:=Lib.hid hd
    clear hd hx hs hi
    generalize bt s i = y at *
    by_cases h1:48 ≤ y
    · by_cases h2:y ≤ 57
      · have t1:decide ((48:Int) ≤ (y:Int)) = true:=decide_eq_true (by omega)
        have t2:decide ((y:Int) ≤ 57) = true:=decide_eq_true (by omega)
        have HV:=Lib.hid (show dAt s i = true by rw [HD.out,decide_eq_true h1,decide_eq_true h2];rfl)
        clear h1 h2
        unfold sv
        go_enter Tryz.func43,Tryz.ntmps43
        go_wp2_with fail
        go_ret
        exact ⟨by rw [HV.out] <;> rfl,rfl⟩
      · have t1:decide ((48:Int) ≤ (y:Int)) = true:=decide_eq_true (by omega)
        have t2:decide ((y:Int) ≤ 57) = false:=decide_eq_false (by omega)
        have HV:=Lib.hid (show dAt s i = false by rw [HD.out,decide_eq_true h1,decide_eq_false h2];rfl)
        clear h1 h2
        unfold sv
        go_enter Tryz.func43,Tryz.ntmps43
        go_wp2_with fail
        go_ret
        exact ⟨by rw [HV.out] <;> rfl,rfl⟩
    · have t1:decide ((48:Int) ≤ (y:Int)) = false:=decide_eq_false (by omega)
      have HV:=Lib.hid (show dAt s i = false by rw [HD.out,decide_eq_false h1];rfl)
      clear h1
      unfold sv
      go_enter Tryz.func43,Tryz.ntmps43
      go_wp2_with fail
      go_ret
      exact ⟨by rw [HV.out] <;> rfl,rfl⟩
  · have HV:=Lib.hid (dAt_ge h)
    have u1:decide (((i:Nat):Int) < ((s.length:Nat):Int)) = false:=decide_eq_false (by omega)
    have u2:decide (i < s.length) = false:=decide_eq_false (by omega)
    clear h hs hi
    unfold sv
    go_enter Tryz.func43,Tryz.ntmps43
    go_wp2_with fail
    go_ret
    exact ⟨by rw [HV.out] <;> rfl,rfl⟩
set_option maxRecDepth 100000 in
theorem lover_any (s:List UInt8) (i:Nat) (w:World) (hs:s.length ≤ 140737488353000) (hi:i ≤ s.length) :
    Calls Tryz.prog 58 #[sv s,.int .i64 (i:Int)] w fun e w'=>e = .returned (.int .i64 (ov s i:Nat)) ∧ w = w':=by
  have HS:=Lib.hid hs
  have HI:=Lib.hid hi
  have HOV:=Lib.hid (ov_ge s i)
  have HOL:=Lib.hid (ov_le hi)
  clear hs hi
  go_enter Tryz.func58,Tryz.ntmps58
  go_wp2_with fail
  go_loop [1] (fun x=>∃ k:Nat,x = .int .i64 (k:Int) ∧ i ≤ k ∧ k ≤ ov s i) (fun x=>s.length - (intOf x).toNat)
  case atStart=>exact ⟨i,rfl,Nat.le_refl _,HOV.out⟩
  case round =>
    obtain ⟨k,rfl,hk1,hk2⟩:=hrel
    have HK1:=Lib.hid hk1
    have HK2:=Lib.hid hk2
    have HD:=Lib.hid (fun W=>ldigit_any s k W HS.out (by have:=HOL.out;have:=HS.out;omega))
    have hkI:((k:Nat):Int) ≤ 140737488353000:=by have:=HOL.out;have:=HS.out;omega
    cases hd:dAt s k with
    | true =>
      rw [hd] at HD
      have hk3:k + 1 ≤ ov s i:=by
        rcases Nat.lt_or_ge k (ov s i) with h | h
        · exact h
        · have:k = ov s i:=by omega
          rw [this,ov_end] at hd
          cases hd
      have HK3:=Lib.hid hk3
      clear hk1 hk2 hk3 hd
      go_wp2_with fail
      refine (HD.out _).mono ?_
      rintro e w1 ⟨rfl,rfl⟩
      go_wp2_with fail
      go_round
      case rel=>exact ⟨k + 1,by go_num,by have:=HK1.out;omega,HK3.out⟩
      case measure=>have:=HK3.out;have:=HOL.out;simp [intOf];omega
    | false =>
      rw [hd] at HD
      have hke:k = ov s i:=by
        have h1:=ov_ov hk1 hk2
        rw [ov_no hd] at h1
        exact h1
      have HKE:=Lib.hid hke
      clear hk1 hk2 hd hke
      go_wp2_with fail
      refine (HD.out _).mono ?_
      rintro e w1 ⟨rfl,rfl⟩
      go_wp2_with fail
      go_ret
      exact ⟨by rw [← HKE.out] <;> rfl,rfl⟩
set_option maxRecDepth 100000 in
set_option maxHeartbeats 8000000 in
theorem rhex_any (c:UInt8) (w:World):Calls Tryz.prog 104 #[.int .u8 (c.toNat:Int)] w fun e w'=>e = .returned (.int .i64 (hexV c)) ∧ w = w':=by
  have hlt:c.toNat < 256:=UInt8.toNat_lt c
  obtain ⟨R,hR⟩:∃ R,hexV c = R:=⟨_,rfl⟩
  unfold hexV hexv at hR
  rw [show hexV c = R by unfold hexV hexv;exact hR]
  generalize c.toNat = C at *
  by_cases d1:48 ≤ C ∧ C ≤ 57
  · rw [if_pos d1] at hR
    have t1:decide (48 ≤ (C:Int)) = true:=by rw [decide_eq_true_iff];omega
    have t2:decide ((C:Int) ≤ 57) = true:=by rw [decide_eq_true_iff];omega
    obtain ⟨x,hx⟩:∃ x,C - 48 = x:=⟨_,rfl⟩
    have e1:(C:Int) - 48 = (x:Int):=by omega
    have hx9:x < 10:=by omega
    rw [hx] at hR
    subst hR
    clear d1 hx
    go_enter Tryz.func104,Tryz.ntmps104
    go_wp2
    go_ret
    exact ⟨rfl,rfl⟩
  rw [if_neg d1] at hR
  have t1:decide (48 ≤ (C:Int)) = false ∨ (decide (48 ≤ (C:Int)) = true ∧ decide ((C:Int) ≤ 57) = false):=by
    rcases Nat.lt_or_ge C 48 with h | h
    · left;rw [decide_eq_false_iff_not];omega
    · right;refine ⟨by rw [decide_eq_true_iff];omega,by rw [decide_eq_false_iff_not];omega⟩
  by_cases d2:97 ≤ C ∧ C ≤ 102
  · rw [if_pos d2] at hR
    have t3:decide (97 ≤ (C:Int)) = true:=by rw [decide_eq_true_iff];omega
    have t4:decide ((C:Int) ≤ 102) = true:=by rw [decide_eq_true_iff];omega
    obtain ⟨x,hx⟩:∃ x,C - 97 = x:=⟨_,rfl⟩
    have e1:(C:Int) - 97 = (x:Int):=by omega
    have hx9:x < 6:=by omega
    rw [hx] at hR
    have e2:(x:Int) + 10 = ((x + 10:Nat):Int):=by omega
    have hR':(((x + 10:Nat):Nat):Int) = R:=hR
    obtain ⟨y,hy⟩:∃ y,x + 10 = y:=⟨_,rfl⟩
    have hy16:y < 16:=by omega
    rw [hy] at e2 hR'
    subst hR'
    clear d1 d2 hx hR hy
    rcases t1 with t1 | ⟨t1,t2⟩ <;>
    ( go_enter Tryz.func104,Tryz.ntmps104
      go_wp2
      go_ret
      exact ⟨rfl,rfl⟩ )
  rw [if_neg d2] at hR
  have t3:decide (97 ≤ (C:Int)) = false ∨ (decide (97 ≤ (C:Int)) = true ∧ decide ((C:Int) ≤ 102) = false):=by
    rcases Nat.lt_or_ge C 97 with h | h
    · left;rw [decide_eq_false_iff_not];omega
    · right;refine ⟨by rw [decide_eq_true_iff];omega,by rw [decide_eq_false_iff_not];omega⟩
  by_cases d3:65 ≤ C ∧ C ≤ 70
  · rw [if_pos d3] at hR
    have t5:decide (65 ≤ (C:Int)) = true:=by rw [decide_eq_true_iff];omega
    have t6:decide ((C:Int) ≤ 70) = true:=by rw [decide_eq_true_iff];omega
    obtain ⟨x,hx⟩:∃ x,C - 65 = x:=⟨_,rfl⟩
    have e1:(C:Int) - 65 = (x:Int):=by omega
    have hx9:x < 6:=by omega
    rw [hx] at hR
    have e2:(x:Int) + 10 = ((x + 10:Nat):Int):=by omega
    have hR':(((x + 10:Nat):Nat):Int) = R:=hR
    obtain ⟨y,hy⟩:∃ y,x + 10 = y:=⟨_,rfl⟩
    have hy16:y < 16:=by omega
    rw [hy] at e2 hR'
    subst hR'
    clear d1 d2 d3 hx hR hy
    rcases t1 with t1 | ⟨t1,t2⟩ <;> rcases t3 with t3 | ⟨t3,t4⟩ <;>
    ( go_enter Tryz.func104,Tryz.ntmps104
      go_wp2
      go_ret
      exact ⟨rfl,rfl⟩ )
  rw [if_neg d3] at hR
  have t5:decide (65 ≤ (C:Int)) = false ∨ (decide (65 ≤ (C:Int)) = true ∧ decide ((C:Int) ≤ 70) = false):=by
    rcases Nat.lt_or_ge C 65 with h | h
    · left;rw [decide_eq_false_iff_not];omega
    · right;refine ⟨by rw [decide_eq_true_iff];omega,by rw [decide_eq_false_iff_not];omega⟩
  have hR':(-1:Int) = R:=hR
  subst hR'
  clear d1 d2 d3 hR
  rcases t1 with t1 | ⟨t1,t2⟩ <;> rcases t3 with t3 | ⟨t3,t4⟩ <;> rcases t5 with t5 | ⟨t5,t6⟩ <;>
  ( go_enter Tryz.func104,Tryz.ntmps104
    go_wp2
    go_ret
    exact ⟨rfl,rfl⟩ )
def simpV (c:UInt8):Int:=match simp1 c with
  | some v=>(v.toNat:Int)
  | none=>-1
theorem simp_lit (c:UInt8):simpV c = if c = 34 then 34 else if c = 92 then 92 else if c = 47 then 47 else if c = 98 then 8 else if c = 102 then 12 else if c = 110 then 10 else if c = 114 then 13 else if c = 116 then 9 else -1:=by
  by_cases h34:c = 34
  · subst h34;decide
  by_cases h92:c = 92
  · subst h92;decide
  by_cases h47:c = 47
  · subst h47;decide
  by_cases h98:c = 98
  · subst h98;decide
  by_cases h102:c = 102
  · subst h102;decide
  by_cases h110:c = 110
  · subst h110;decide
  by_cases h114:c = 114
  · subst h114;decide
  by_cases h116:c = 116
  · subst h116;decide
  unfold simpV simp1
  simp [h34,h92,h47,h98,h102,h110,h114,h116]
def pcV:Pc → Value
  | .ok l n=>.agg #[.string ⟨l.toArray⟩,.int .i64 (n:Nat),.int .i64 0,.int .i64 0,.bool false]
  | .bad no p=>.agg #[.string ⟨#[]⟩,.int .i64 0,.int .i64 (no:Nat),.int .i64 (p:Nat),.bool false]
  | .cut=>.agg #[.string ⟨#[]⟩,.int .i64 0,.int .i64 0,.int .i64 0,.bool true]
theorem cells5 {w:World} {g:Nat} {t:TypeId} {a b c d e:Value} (h:Blk w g t #[a,b,c,d,e]) :
    w.cell? ⟨g,0,none⟩ = some a ∧ w.cell? ⟨g,1,none⟩ = some b ∧ w.cell? ⟨g,2,none⟩ = some c ∧ w.cell? ⟨g,3,none⟩ = some d ∧ w.cell? ⟨g,4,none⟩ = some e :=
  ⟨by rw [h.cell];rfl,by rw [h.cell];rfl,by rw [h.cell];rfl,by rw [h.cell];rfl,by rw [h.cell];rfl⟩
set_option maxRecDepth 100000 in
theorem rbad_any (no p:Int) (w:World):Calls Tryz.prog 69 #[.int .i64 no,.int .i64 p] w fun e w'=>e = .returned (.agg #[.string ⟨#[]⟩,.int .i64 0,.int .i64 no,.int .i64 p,.bool false]) ∧ Below w.heap.size w w':=by
  go_enter Tryz.func69,Tryz.ntmps69
  go_wp2
  obtain ⟨n0,n1,n2,n3,n4⟩:=cells5 (Blk.new w 105 #[.string ⟨#[]⟩,.int .i64 0,.int .i64 no,.int .i64 p,.bool false])
  exact bodyPost_ret (v:=.agg #[.string ⟨#[]⟩,.int .i64 0,.int .i64 no,.int .i64 p,.bool false]) (by simp [results,Tryz.results69,go_sem,n0,n1,n2,n3,n4]) rfl ⟨rfl,(Below.refl _ _).alloc (Nat.le_refl _) _⟩
abbrev outV (v:Value) (no p f h:Nat):Value:=.agg #[v,.int .i64 (no:Nat),.int .i64 (p:Nat),.int .i64 (f:Nat),.int .i64 (h:Nat)]
set_option maxRecDepth 100000 in
theorem rwrong9 (v a b c d:Value) (no p:Nat) (w:World) (hv:∃ A n c,v = .slice A n c):Calls Tryz.prog 31 #[.agg #[v,a,b,c,d],.int .i64 (no:Nat),.int .i64 (p:Nat)] w fun e w'=>e = .returned (outV v no p p 0) ∧ Below w.heap.size w w':=by
  obtain ⟨A,n,cc,rfl⟩:=hv
  have hb0:=(Blk.new w 32 #[.slice A n cc,a,b,c,d]).alloc (.cells #[.slice none 0 0,.int .i64 0,.int .i64 0,.int .i64 0,.int .i64 0] 32)
  obtain ⟨m0,m1,m2,m3,m4⟩:=cells5 hb0
  have f1:=hb0.frozen 1
  have f2:=hb0.frozen 2
  have f3:=hb0.frozen 3
  have f4:=hb0.frozen 4
  have HB:=Lib.hid hb0
  clear hb0
  go_enter Tryz.func31,Tryz.ntmps31
  go_wp2
  have hn:=Blk.new (w.alloc (.cells #[.slice A n cc,.int .i64 (no:Nat),.int .i64 (p:Nat),.int .i64 (p:Nat),.int .i64 0] 32)) 32 #[.slice A n cc,.int .i64 (no:Nat),.int .i64 (p:Nat),.int .i64 (p:Nat),.int .i64 0]
  rw [World.size_alloc] at hn
  obtain ⟨n0,n1,n2,n3,n4⟩:=cells5 hn
  exact bodyPost_ret (v:=outV (.slice A n cc) no p p 0) (by simp [results,Tryz.results31,go_sem,n0,n1,n2,n3,n4]) rfl ⟨rfl,((Below.refl _ _).alloc (Nat.le_refl _) _).alloc (by simp) _⟩
set_option maxRecDepth 100000 in
theorem rcut_yes (v a b c d:Value) (s:List UInt8) (at_:Nat) (w:World) (hv:∃ A n c,v = .slice A n c) (hs:s.length ≤ 1000000000000) :
    Calls Tryz.prog 41 #[.agg #[v,a,b,c,d],.string ⟨s.toArray⟩,.int .i64 (at_:Nat),.bool true] w fun e w'=>e = .returned (outV v 95 s.length s.length 0) ∧ Below w.heap.size w w':=by
  obtain ⟨A,n,cc,rfl⟩:=hv
  have HW:=Lib.hid (fun W=>rwrong9 (.slice A n cc) a b c d 95 s.length W ⟨A,n,cc,rfl⟩)
  have hb0:=(Blk.new w 32 #[.slice A n cc,a,b,c,d]).alloc (.cells #[.slice none 0 0,.int .i64 0,.int .i64 0,.int .i64 0,.int .i64 0] 32)
  obtain ⟨m0,m1,m2,m3,m4⟩:=cells5 hb0
  clear hb0
  go_enter Tryz.func41,Tryz.ntmps41
  go_wp2_with fail
  refine (HW.out _).mono ?_
  rintro e w1 ⟨rfl,hb⟩
  have hn:=Blk.new (w.alloc (.cells #[.slice A n cc,a,b,c,d] 32)) 32 #[.slice none 0 0,.int .i64 0,.int .i64 0,.int .i64 0,.int .i64 0]
  rw [World.size_alloc] at hn
  have hn1:=hn.below hb hn.lt
  obtain ⟨n0,n1,n2,n3,n4⟩:=cells5 hn1
  have f0:=hn1.frozen 0
  have f1:=hn1.frozen 1
  have f2:=hn1.frozen 2
  have f3:=hn1.frozen 3
  have f4:=hn1.frozen 4
  have HN:=Lib.hid hn1
  have HB:=Lib.hid hb
  clear hn hn1 hb
  go_wp2_with fail
  have hz:=((((HN.out.set1 0 (.slice A n cc)).set1 1 (.int .i64 95)).set1 2 (.int .i64 (s.length:Nat))).set1 3 (.int .i64 (s.length:Nat))).set1 4 (.int .i64 0)
  simp at hz
  obtain ⟨n0,n1,n2,n3,n4⟩:=cells5 hz
  refine bodyPost_ret (v:=outV (.slice A n cc) 95 s.length s.length 0) (by simp [results,Tryz.results41,go_sem,n0,n1,n2,n3,n4]) rfl ⟨rfl,?_⟩
  have h0:Below w.heap.size w w1:=(((Below.refl _ w).alloc (Nat.le_refl _) _).alloc (by simp) _).trans (HB.out.mono (by simp;omega))
  exact ((((h0.setCell (p:=⟨w.heap.size + 1,0,none⟩) (by simp) _).setCell (p:=⟨w.heap.size + 1,1,none⟩) (by simp) _).setCell (p:=⟨w.heap.size + 1,2,none⟩) (by simp) _).setCell (p:=⟨w.heap.size + 1,3,none⟩) (by simp) _).setCell (p:=⟨w.heap.size + 1,4,none⟩) (by simp) _
set_option maxRecDepth 100000 in
theorem rcut_no (v:Value) (s:List UInt8) (at_:Nat) (w:World) (hv:∃ A n c,v = .slice A n c) (hs:s.length ≤ 1000000000000) (ha:at_ ≤ s.length) :
    Calls Tryz.prog 41 #[outV v 0 0 0 0,.string ⟨s.toArray⟩,.int .i64 (at_:Nat),.bool false] w fun e w'=>e = .returned (outV v 0 0 0 (s.length - at_)) ∧ Below w.heap.size w w':=by
  obtain ⟨A,n,cc,rfl⟩:=hv
  have hz0:((0:Nat):Int) = 0:=rfl
  unfold outV
  rw [hz0]
  have hsub:(s.length:Int) - (at_:Int) = ((s.length - at_:Nat):Int):=by omega
  have hb0:=(Blk.new w 32 #[.slice A n cc,.int .i64 0,.int .i64 0,.int .i64 0,.int .i64 0]).alloc (.cells #[.slice none 0 0,.int .i64 0,.int .i64 0,.int .i64 0,.int .i64 0] 32)
  obtain ⟨m0,m1,m2,m3,m4⟩:=cells5 hb0
  have f4:=hb0.frozen 4
  clear hb0
  generalize s.length - at_ = D at *
  go_enter Tryz.func41,Tryz.ntmps41
  go_wp2_with fail
  have hn:=Blk.new (w.alloc (.cells #[.slice A n cc,.int .i64 0,.int .i64 0,.int .i64 0,.int .i64 (D:Nat)] 32)) 32 #[.slice A n cc,.int .i64 0,.int .i64 0,.int .i64 0,.int .i64 (D:Nat)]
  rw [World.size_alloc] at hn
  obtain ⟨n0,n1,n2,n3,n4⟩:=cells5 hn
  exact bodyPost_ret (v:=.agg #[.slice A n cc,.int .i64 0,.int .i64 0,.int .i64 0,.int .i64 (D:Nat)]) (by simp [results,Tryz.results41,go_sem,n0,n1,n2,n3,n4]) rfl ⟨rfl,((Below.refl _ _).alloc (Nat.le_refl _) _).alloc (by simp) _⟩
set_option maxRecDepth 100000 in
set_option maxHeartbeats 2000000 in
theorem rsimple_any (c:UInt8) (w:World):Calls Tryz.prog 84 #[.int .u8 (c.toNat:Int)] w fun e w'=>e = .returned (.int .i64 (simpV c)) ∧ w = w':=by
  rw [simp_lit]
  have f0:(({ data:=#[34,92,47,98,102,110,114,116] }:ByteArray)[0]'(by decide)).toNat = 34:=by decide
  have f1:(({ data:=#[34,92,47,98,102,110,114,116] }:ByteArray)[1]'(by decide)).toNat = 92:=by decide
  have f2:(({ data:=#[34,92,47,98,102,110,114,116] }:ByteArray)[2]'(by decide)).toNat = 47:=by decide
  have f3:(({ data:=#[34,92,47,98,102,110,114,116] }:ByteArray)[3]'(by decide)).toNat = 98:=by decide
  have f4:(({ data:=#[34,92,47,98,102,110,114,116] }:ByteArray)[4]'(by decide)).toNat = 102:=by decide
  have f5:(({ data:=#[34,92,47,98,102,110,114,116] }:ByteArray)[5]'(by decide)).toNat = 110:=by decide
  have f6:(({ data:=#[34,92,47,98,102,110,114,116] }:ByteArray)[6]'(by decide)).toNat = 114:=by decide
  have f7:(({ data:=#[34,92,47,98,102,110,114,116] }:ByteArray)[7]'(by decide)).toNat = 116:=by decide
  have t0:(({ data:=#[34,92,47,8,12,10,13,9] }:ByteArray)[0]'(by decide)).toNat = 34:=by decide
  have t1:(({ data:=#[34,92,47,8,12,10,13,9] }:ByteArray)[1]'(by decide)).toNat = 92:=by decide
  have t2:(({ data:=#[34,92,47,8,12,10,13,9] }:ByteArray)[2]'(by decide)).toNat = 47:=by decide
  have t3:(({ data:=#[34,92,47,8,12,10,13,9] }:ByteArray)[3]'(by decide)).toNat = 8:=by decide
  have t4:(({ data:=#[34,92,47,8,12,10,13,9] }:ByteArray)[4]'(by decide)).toNat = 12:=by decide
  have t5:(({ data:=#[34,92,47,8,12,10,13,9] }:ByteArray)[5]'(by decide)).toNat = 10:=by decide
  have t6:(({ data:=#[34,92,47,8,12,10,13,9] }:ByteArray)[6]'(by decide)).toNat = 13:=by decide
  have t7:(({ data:=#[34,92,47,8,12,10,13,9] }:ByteArray)[7]'(by decide)).toNat = 9:=by decide
  by_cases h34:c = 34
  · subst h34
    rw [show (((34:UInt8).toNat:Nat):Int) = 34 from rfl]
    go_enter Tryz.func84,Tryz.ntmps84
    go_wp2_with fail
    go_loop [5] (fun x=>∃ k:Nat,x = .int .i64 (k:Int) ∧ k ≤ 0) (fun x=>8 - (intOf x).toNat)
    case atStart=>exact ⟨0,rfl,by omega⟩
    case round =>
      obtain ⟨k,rfl,hk⟩:=hrel
      have key:k = 0:=by omega
      clear hk
      rcases key with rfl
      · go_wp2_with fail
        go_ret
        exact ⟨rfl,rfl⟩
  rw [if_neg h34]
  have n34:((34:Int) == (c.toNat:Int)) = false:=by
    have:=bit_byte c 34
    rw [decide_eq_false h34] at this
    rw [← this]
    exact Bool.beq_comm
  by_cases h92:c = 92
  · subst h92
    rw [show (((92:UInt8).toNat:Nat):Int) = 92 from rfl]
    clear h34
    go_enter Tryz.func84,Tryz.ntmps84
    go_wp2_with fail
    go_loop [5] (fun x=>∃ k:Nat,x = .int .i64 (k:Int) ∧ k ≤ 1) (fun x=>8 - (intOf x).toNat)
    case atStart=>exact ⟨0,rfl,by omega⟩
    case round =>
      obtain ⟨k,rfl,hk⟩:=hrel
      have key:k = 0 ∨ k = 1:=by omega
      clear hk
      rcases key with rfl | rfl
      · go_wp2_with fail
        go_round
        case rel=>exact ⟨1,by go_num,by omega⟩
        case measure=>simp [intOf]
      · go_wp2_with fail
        go_ret
        exact ⟨rfl,rfl⟩
  rw [if_neg h92]
  have n92:((92:Int) == (c.toNat:Int)) = false:=by
    have:=bit_byte c 92
    rw [decide_eq_false h92] at this
    rw [← this]
    exact Bool.beq_comm
  by_cases h47:c = 47
  · subst h47
    rw [show (((47:UInt8).toNat:Nat):Int) = 47 from rfl]
    clear h34
    clear h92
    go_enter Tryz.func84,Tryz.ntmps84
    go_wp2_with fail
    go_loop [5] (fun x=>∃ k:Nat,x = .int .i64 (k:Int) ∧ k ≤ 2) (fun x=>8 - (intOf x).toNat)
    case atStart=>exact ⟨0,rfl,by omega⟩
    case round =>
      obtain ⟨k,rfl,hk⟩:=hrel
      have key:k = 0 ∨ k = 1 ∨ k = 2:=by omega
      clear hk
      rcases key with rfl | rfl | rfl
      · go_wp2_with fail
        go_round
        case rel=>exact ⟨1,by go_num,by omega⟩
        case measure=>simp [intOf]
      · go_wp2_with fail
        go_round
        case rel=>exact ⟨2,by go_num,by omega⟩
        case measure=>simp [intOf]
      · go_wp2_with fail
        go_ret
        exact ⟨rfl,rfl⟩
  rw [if_neg h47]
  have n47:((47:Int) == (c.toNat:Int)) = false:=by
    have:=bit_byte c 47
    rw [decide_eq_false h47] at this
    rw [← this]
    exact Bool.beq_comm
  by_cases h98:c = 98
  · subst h98
    rw [show (((98:UInt8).toNat:Nat):Int) = 98 from rfl]
    clear h34
    clear h92
    clear h47
    go_enter Tryz.func84,Tryz.ntmps84
    go_wp2_with fail
    go_loop [5] (fun x=>∃ k:Nat,x = .int .i64 (k:Int) ∧ k ≤ 3) (fun x=>8 - (intOf x).toNat)
    case atStart=>exact ⟨0,rfl,by omega⟩
    case round =>
      obtain ⟨k,rfl,hk⟩:=hrel
      have key:k = 0 ∨ k = 1 ∨ k = 2 ∨ k = 3:=by omega
      clear hk
      rcases key with rfl | rfl | rfl | rfl
      · go_wp2_with fail
        go_round
        case rel=>exact ⟨1,by go_num,by omega⟩
        case measure=>simp [intOf]
      · go_wp2_with fail
        go_round
        case rel=>exact ⟨2,by go_num,by omega⟩
        case measure=>simp [intOf]
      · go_wp2_with fail
        go_round
        case rel=>exact ⟨3,by go_num,by omega⟩
        case measure=>simp [intOf]
      · go_wp2_with fail
        go_ret
        exact ⟨rfl,rfl⟩
  rw [if_neg h98]
  have n98:((98:Int) == (c.toNat:Int)) = false:=by
    have:=bit_byte c 98
    rw [decide_eq_false h98] at this
    rw [← this]
    exact Bool.beq_comm
  by_cases h102:c = 102
  · subst h102
    rw [show (((102:UInt8).toNat:Nat):Int) = 102 from rfl]
    clear h34
    clear h92
    clear h47
    clear h98
    go_enter Tryz.func84,Tryz.ntmps84
    go_wp2_with fail
    go_loop [5] (fun x=>∃ k:Nat,x = .int .i64 (k:Int) ∧ k ≤ 4) (fun x=>8 - (intOf x).toNat)
    case atStart=>exact ⟨0,rfl,by omega⟩
    case round =>
      obtain ⟨k,rfl,hk⟩:=hrel
      have key:k = 0 ∨ k = 1 ∨ k = 2 ∨ k = 3 ∨ k = 4:=by omega
      clear hk
      rcases key with rfl | rfl | rfl | rfl | rfl
      · go_wp2_with fail
        go_round
        case rel=>exact ⟨1,by go_num,by omega⟩
        case measure=>simp [intOf]
      · go_wp2_with fail
        go_round
        case rel=>exact ⟨2,by go_num,by omega⟩
        case measure=>simp [intOf]
      · go_wp2_with fail
        go_round
        case rel=>exact ⟨3,by go_num,by omega⟩
        case measure=>simp [intOf]
      · go_wp2_with fail
        go_round
        case rel=>exact ⟨4,by go_num,by omega⟩
        case measure=>simp [intOf]
      · go_wp2_with fail
        go_ret
        exact ⟨rfl,rfl⟩
  rw [if_neg h102]
  have n102:((102:Int) == (c.toNat:Int)) = false:=by
    have:=bit_byte c 102
    rw [decide_eq_false h102] at this
    rw [← this]
    exact Bool.beq_comm
  by_cases h110:c = 110
  · subst h110
    rw [show (((110:UInt8).toNat:Nat):Int) = 110 from rfl]
    clear h34
    clear h92
    clear h47
    clear h98
    clear h102
    go_enter Tryz.func84,Tryz.ntmps84
    go_wp2_with fail
    go_loop [5] (fun x=>∃ k:Nat,x = .int .i64 (k:Int) ∧ k ≤ 5) (fun x=>8 - (intOf x).toNat)
    case atStart=>exact ⟨0,rfl,by omega⟩
    case round =>
      obtain ⟨k,rfl,hk⟩:=hrel
      have key:k = 0 ∨ k = 1 ∨ k = 2 ∨ k = 3 ∨ k = 4 ∨ k = 5:=by omega
      clear hk
      rcases key with rfl | rfl | rfl | rfl | rfl | rfl
      · go_wp2_with fail
        go_round
        case rel=>exact ⟨1,by go_num,by omega⟩
        case measure=>simp [intOf]
      · go_wp2_with fail
        go_round
        case rel=>exact ⟨2,by go_num,by omega⟩
        case measure=>simp [intOf]
      · go_wp2_with fail
        go_round
        case rel=>exact ⟨3,by go_num,by omega⟩
        case measure=>simp [intOf]
      · go_wp2_with fail
        go_round
        case rel=>exact ⟨4,by go_num,by omega⟩
        case measure=>simp [intOf]
      · go_wp2_with fail
        go_round
        case rel=>exact ⟨5,by go_num,by omega⟩
        case measure=>simp [intOf]
      · go_wp2_with fail
        go_ret
        exact ⟨rfl,rfl⟩
  rw [if_neg h110]
  have n110:((110:Int) == (c.toNat:Int)) = false:=by
    have:=bit_byte c 110
    rw [decide_eq_false h110] at this
    rw [← this]
    exact Bool.beq_comm
  by_cases h114:c = 114
  · subst h114
    rw [show (((114:UInt8).toNat:Nat):Int) = 114 from rfl]
    clear h34
    clear h92
    clear h47
    clear h98
    clear h102
    clear h110
    go_enter Tryz.func84,Tryz.ntmps84
    go_wp2_with fail
    go_loop [5] (fun x=>∃ k:Nat,x = .int .i64 (k:Int) ∧ k ≤ 6) (fun x=>8 - (intOf x).toNat)
    case atStart=>exact ⟨0,rfl,by omega⟩
    case round =>
      obtain ⟨k,rfl,hk⟩:=hrel
      have key:k = 0 ∨ k = 1 ∨ k = 2 ∨ k = 3 ∨ k = 4 ∨ k = 5 ∨ k = 6:=by omega
      clear hk
      rcases key with rfl | rfl | rfl | rfl | rfl | rfl | rfl
      · go_wp2_with fail
        go_round
        case rel=>exact ⟨1,by go_num,by omega⟩
        case measure=>simp [intOf]
      · go_wp2_with fail
        go_round
        case rel=>exact ⟨2,by go_num,by omega⟩
        case measure=>simp [intOf]
      · go_wp2_with fail
        go_round
        case rel=>exact ⟨3,by go_num,by omega⟩
        case measure=>simp [intOf]
      · go_wp2_with fail
        go_round
        case rel=>exact ⟨4,by go_num,by omega⟩
        case measure=>simp [intOf]
      · go_wp2_with fail
        go_round
        case rel=>exact ⟨5,by go_num,by omega⟩
        case measure=>simp [intOf]
      · go_wp2_with fail
        go_round
        case rel=>exact ⟨6,by go_num,by omega⟩
        case measure=>simp [intOf]
      · go_wp2_with fail
        go_ret
        exact ⟨rfl,rfl⟩
  rw [if_neg h114]
  have n114:((114:Int) == (c.toNat:Int)) = false:=by
    have:=bit_byte c 114
    rw [decide_eq_false h114] at this
    rw [← this]
    exact Bool.beq_comm
  by_cases h116:c = 116
  · subst h116
    rw [show (((116:UInt8).toNat:Nat):Int) = 116 from rfl]
    clear h34
    clear h92
    clear h47
    clear h98
    clear h102
    clear h110
    clear h114
    go_enter Tryz.func84,Tryz.ntmps84
    go_wp2_with fail
    go_loop [5] (fun x=>∃ k:Nat,x = .int .i64 (k:Int) ∧ k ≤ 7) (fun x=>8 - (intOf x).toNat)
    case atStart=>exact ⟨0,rfl,by omega⟩
    case round =>
      obtain ⟨k,rfl,hk⟩:=hrel
      have key:k = 0 ∨ k = 1 ∨ k = 2 ∨ k = 3 ∨ k = 4 ∨ k = 5 ∨ k = 6 ∨ k = 7:=by omega
      clear hk
      rcases key with rfl | rfl | rfl | rfl | rfl | rfl | rfl | rfl
      · go_wp2_with fail
        go_round
        case rel=>exact ⟨1,by go_num,by omega⟩
        case measure=>simp [intOf]
      · go_wp2_with fail
        go_round
        case rel=>exact ⟨2,by go_num,by omega⟩
        case measure=>simp [intOf]
      · go_wp2_with fail
        go_round
        case rel=>exact ⟨3,by go_num,by omega⟩
        case measure=>simp [intOf]
      · go_wp2_with fail
        go_round
        case rel=>exact ⟨4,by go_num,by omega⟩
        case measure=>simp [intOf]
      · go_wp2_with fail
        go_round
        case rel=>exact ⟨5,by go_num,by omega⟩
        case measure=>simp [intOf]
      · go_wp2_with fail
        go_round
        case rel=>exact ⟨6,by go_num,by omega⟩
        case measure=>simp [intOf]
      · go_wp2_with fail
        go_round
        case rel=>exact ⟨7,by go_num,by omega⟩
        case measure=>simp [intOf]
      · go_wp2_with fail
        go_ret
        exact ⟨rfl,rfl⟩
  rw [if_neg h116]
  have n116:((116:Int) == (c.toNat:Int)) = false:=by
    have:=bit_byte c 116
    rw [decide_eq_false h116] at this
    rw [← this]
    exact Bool.beq_comm
  generalize (c.toNat:Int) = C at *
  clear h34 h92 h47 h98 h102 h110 h114 h116
  go_enter Tryz.func84,Tryz.ntmps84
  go_wp2_with fail
  go_loop [5] (fun x=>∃ k:Nat,x = .int .i64 (k:Int) ∧ k ≤ 8) (fun x=>8 - (intOf x).toNat)
  case atStart=>exact ⟨0,rfl,by omega⟩
  case round =>
    obtain ⟨k,rfl,hk⟩:=hrel
    have key:k = 0 ∨ k = 1 ∨ k = 2 ∨ k = 3 ∨ k = 4 ∨ k = 5 ∨ k = 6 ∨ k = 7 ∨ k = 8:=by omega
    clear hk
    rcases key with rfl | rfl | rfl | rfl | rfl | rfl | rfl | rfl | rfl
    · go_wp2_with fail
      go_round
      case rel=>exact ⟨1,by go_num,by omega⟩
      case measure=>simp [intOf]
    · go_wp2_with fail
      go_round
      case rel=>exact ⟨2,by go_num,by omega⟩
      case measure=>simp [intOf]
    · go_wp2_with fail
      go_round
      case rel=>exact ⟨3,by go_num,by omega⟩
      case measure=>simp [intOf]
    · go_wp2_with fail
      go_round
      case rel=>exact ⟨4,by go_num,by omega⟩
      case measure=>simp [intOf]
    · go_wp2_with fail
      go_round
      case rel=>exact ⟨5,by go_num,by omega⟩
      case measure=>simp [intOf]
    · go_wp2_with fail
      go_round
      case rel=>exact ⟨6,by go_num,by omega⟩
      case measure=>simp [intOf]
    · go_wp2_with fail
      go_round
      case rel=>exact ⟨7,by go_num,by omega⟩
      case measure=>simp [intOf]
    · go_wp2_with fail
      go_round
      case rel=>exact ⟨8,by go_num,by omega⟩
      case measure=>simp [intOf]
    · go_wp2_with fail
      go_ret
      exact ⟨rfl,rfl⟩
end Go.Proofs.YtgmholdkdppbmaaGreatDoor.Lx

namespace Go.Proofs.YtgmholdkdppbmaaGreatDoor
open Go.RowKit
theorem rv_new (w:World) (t:TypeId) (vs:List Value):RV (w.alloc (.cells vs.toArray t)) (w.heap.size + 1) (some ⟨w.heap.size,0,none⟩) vs.length vs :=
  ⟨rfl,fun _=>⟨w.heap.size,0,rfl,by omega,fun j hj=>by rw [(Blk.new w t vs.toArray).cell];simp [hj]⟩⟩
theorem enc_cells (n:Nat) (hn:Scal n):(enc n).map bv = if n < 128 then [.int .u8 n] else if n < 2048 then [.int .u8 (192 + (n:Int) / 64),.int .u8 (128 + (n:Int) % 64)]
    else if n < 65536 then [.int .u8 (224 + (n:Int) / 4096),.int .u8 (128 + (n:Int) / 64 % 64),.int .u8 (128 + (n:Int) % 64)]
    else [.int .u8 (240 + (n:Int) / 262144),.int .u8 (128 + (n:Int) / 4096 % 64),.int .u8 (128 + (n:Int) / 64 % 64),.int .u8 (128 + (n:Int) % 64)]:=by
  have hs:n < 1114112:=by unfold Scal at hn;omega
  have hv:∀ m:Nat,m < 256 → bv (UInt8.ofNat m) = .int .u8 (m:Int):=fun m hm=>by show Value.int .u8 _ = _;rw [toNat_ofNat hm]
  unfold enc
  by_cases h1:n < 128
  · rw [if_pos h1,if_pos h1];simp only [List.map_cons,List.map_nil,hv n (by omega)]
  · by_cases h2:n < 2048
    · rw [if_neg h1,if_pos h2,if_neg h1,if_pos h2]
      simp only [List.map_cons,List.map_nil,hv (192 + n / 64) (by omega),hv (128 + n % 64) (by omega)]
      rfl
    · by_cases h3:n < 65536
      · rw [if_neg h1,if_neg h2,if_pos h3,if_neg h1,if_neg h2,if_pos h3]
        simp only [List.map_cons,List.map_nil,hv (224 + n / 4096) (by omega),hv (128 + n / 64 % 64) (by omega),hv (128 + n % 64) (by omega)]
        rfl
      · rw [if_neg h1,if_neg h2,if_neg h3,if_neg h1,if_neg h2,if_neg h3]
        simp only [List.map_cons,List.map_nil,hv (240 + n / 262144) (by omega),hv (128 + n / 4096 % 64) (by omega),hv (128 + n / 64 % 64) (by omega),hv (128 + n % 64) (by omega)]
        rfl
set_option maxRecDepth 100000 in
set_option maxHeartbeats 1000000 in
theorem rencode_ok (n:Nat) (w:World) (h:Scal n):Calls Tryz.prog 86 #[.int .i32 n] w fun e w'=>e = .returned (.string ⟨(enc n).toArray⟩) ∧ Below w.heap.size w w':=by
  have hs:n < 1114112:=by unfold Scal at h;omega
  have hc:=fun W=>scalar_any n W
  have hB:scalB (n:Int) = true:=by unfold Scal at h;simp [scalB];omega
  rw [hB] at hc
  have HC:=Lib.hid hc
  have hec:=enc_cells n h
  clear hc hB h
  by_cases h1:n < 128
  · rw [if_pos h1] at hec
    have HEC:=Lib.hid hec
    clear hec
    go_enter Tryz.func86,Tryz.ntmps86
    go_wp2_with (first
      | (go_at_call 105;refine (HC.out _).mono ?_;rintro e w' ⟨rfl,rfl⟩)
      | (at_builtin;refine wpList_app (ok:=fun _=>True) ei_u8 trivial rfl (.tmp 12) (.tmp 15) rfl w.heap.size _ 0 [] rfl (OwnR.nil _ _ _ _) _ _ _ _ _ rfl (rv_new w 5 [.int .u8 n]) (fun u hu=>by simp at hu;subst hu;rfl) (by decide) (by decide) (by simp) ?_;intro A' c' w' hown' hg' hat';rw [List.nil_append,← HEC.out] at hown';have ks:=fun c''=>str_of_RB hown'.rv.rb c'';clear hown' hat'))
    go_ret
    exact ⟨rfl,((Below.refl _ _).alloc (Nat.le_refl _) _).grown hg' (by simp) (fun k hk=>by cases hk)⟩
  by_cases h2:n < 2048
  · rw [if_neg h1,if_pos h2] at hec
    have HEC:=Lib.hid hec
    clear hec
    go_enter Tryz.func86,Tryz.ntmps86
    go_wp2_with (first
      | (go_at_call 105;refine (HC.out _).mono ?_;rintro e w' ⟨rfl,rfl⟩)
      | (at_builtin;refine wpList_app (ok:=fun _=>True) ei_u8 trivial rfl (.tmp 19) (.tmp 28) rfl w.heap.size _ 0 [] rfl (OwnR.nil _ _ _ _) _ _ _ _ _ rfl (rv_new w 5 [.int .u8 (192 + (n:Int) / 64),.int .u8 (128 + (n:Int) % 64)]) (fun u hu=>by simp at hu;(rcases hu with rfl | rfl) <;> rfl) (by decide) (by decide) (by simp) ?_;intro A' c' w' hown' hg' hat';rw [List.nil_append,← HEC.out] at hown';have ks:=fun c''=>str_of_RB hown'.rv.rb c'';clear hown' hat'))
    go_ret
    exact ⟨rfl,((Below.refl _ _).alloc (Nat.le_refl _) _).grown hg' (by simp) (fun k hk=>by cases hk)⟩
  by_cases h3:n < 65536
  · rw [if_neg h1,if_neg h2,if_pos h3] at hec
    have HEC:=Lib.hid hec
    have d1:decide ((n:Int) < 128) = false:=by simp;omega
    have d2:decide ((n:Int) < 2048) = false:=by simp;omega
    have d3:decide ((n:Int) < 65536) = true:=by simp;omega
    have b1:(n:Int) ≤ 65535:=by omega
    clear hec h1 h2 h3 hs
    go_enter Tryz.func86,Tryz.ntmps86
    go_wp2_with (first
      | (go_at_call 105;refine (HC.out _).mono ?_;rintro e w' ⟨rfl,rfl⟩)
      | (at_builtin;refine wpList_app (ok:=fun _=>True) ei_u8 trivial rfl (.tmp 32) (.tmp 46) rfl w.heap.size _ 0 [] rfl (OwnR.nil _ _ _ _) _ _ _ _ _ rfl (rv_new w 5 [.int .u8 (224 + (n:Int) / 4096),.int .u8 (128 + (n:Int) / 64 % 64),.int .u8 (128 + (n:Int) % 64)]) (fun u hu=>by simp at hu;(rcases hu with rfl | rfl | rfl) <;> rfl) (by decide) (by decide) (by simp) ?_;intro A' c' w' hown' hg' hat';rw [List.nil_append,← HEC.out] at hown';have ks:=fun c''=>str_of_RB hown'.rv.rb c'';clear hown' hat'))
    go_ret
    exact ⟨rfl,((Below.refl _ _).alloc (Nat.le_refl _) _).grown hg' (by simp) (fun k hk=>by cases hk)⟩
  · rw [if_neg h1,if_neg h2,if_neg h3] at hec
    have HEC:=Lib.hid hec
    have d1:decide ((n:Int) < 128) = false:=by simp;omega
    have d2:decide ((n:Int) < 2048) = false:=by simp;omega
    have d3:decide ((n:Int) < 65536) = false:=by simp;omega
    have b1:(n:Int) ≤ 1114111:=by omega
    clear hec h1 h2 h3 hs
    go_enter Tryz.func86,Tryz.ntmps86
    go_wp2_with (first
      | (go_at_call 105;refine (HC.out _).mono ?_;rintro e w' ⟨rfl,rfl⟩)
      | (at_builtin;refine wpList_app (ok:=fun _=>True) ei_u8 trivial rfl (.tmp 48) (.tmp 67) rfl w.heap.size _ 0 [] rfl (OwnR.nil _ _ _ _) _ _ _ _ _ rfl (rv_new w 5 [.int .u8 (240 + (n:Int) / 262144),.int .u8 (128 + (n:Int) / 4096 % 64),.int .u8 (128 + (n:Int) / 64 % 64),.int .u8 (128 + (n:Int) % 64)]) (fun u hu=>by simp at hu;(rcases hu with rfl | rfl | rfl | rfl) <;> rfl) (by decide) (by decide) (by simp) ?_;intro A' c' w' hown' hg' hat';rw [List.nil_append,← HEC.out] at hown';have ks:=fun c''=>str_of_RB hown'.rv.rb c'';clear hown' hat'))
    go_ret
    exact ⟨rfl,((Below.refl _ _).alloc (Nat.le_refl _) _).grown hg' (by simp) (fun k hk=>by cases hk)⟩
end Go.Proofs.YtgmholdkdppbmaaGreatDoor

namespace Go.Proofs.YtgmholdkdppbmaaGreatDoor.Lx
open Go.RowKit
attribute [local go_sem ↓] Go.wp_at_zero Go.wp_at_succ
abbrev pz:Value:=.agg #[.string ⟨#[]⟩,.int .i64 0,.int .i64 0,.int .i64 0,.bool false]
def frV:R4 → Value
  | .ok n=>.tuple #[.int .i64 (n:Nat),pz]
  | .bad no p=>.tuple #[.int .i64 0,pcV (.bad no p)]
  | .cut=>.tuple #[.int .i64 0,pcV .cut]
theorem get_c (s:List UInt8) (q:Nat) (c:UInt8) (h:q < s.length) (hc:s[q] = c):(({ data:=s.toArray }:ByteArray)[q]'h).toNat = c.toNat:=by
  rw [← hc];rfl
theorem four_cons (low:Bool) (r k n:Nat) (c:UInt8) (l:List UInt8) (p:Nat):four low (r + 1) k n (c :: l) p = match hexv c with
    | none=>.bad (if low = true then 93 else 92) p
    | some v=>if loneB low k n v = true then .bad 93 p else four low r (k + 1) (16 * n + v) l (p + 1):=by
  rw [four]
  cases hexv c <;> rfl
def set5 (W:World) (g:Nat) (a b c d e:Value):World:=((((W.setCell ⟨g,0,none⟩ a).setCell ⟨g,1,none⟩ b).setCell ⟨g,2,none⟩ c).setCell ⟨g,3,none⟩ d).setCell ⟨g,4,none⟩ e
theorem set5_blk {W:World} {g:Nat} {t:TypeId} {a0 b0 c0 d0 e0:Value} (h:Blk W g t #[a0,b0,c0,d0,e0]) (a b c d e:Value):Blk (set5 W g a b c d e) g t #[a,b,c,d,e]:=by
  have:=((((h.set1 0 a).set1 1 b).set1 2 c).set1 3 d).set1 4 e
  unfold set5
  simpa using this
theorem set5_below {w0 W:World} {B g:Nat} (h:Below B w0 W) (hg:B ≤ g) (a b c d e:Value):Below B w0 (set5 W g a b c d e) :=
  ((((h.setCell (p:=⟨g,0,none⟩) hg a).setCell (p:=⟨g,1,none⟩) hg b).setCell (p:=⟨g,2,none⟩) hg c).setCell (p:=⟨g,3,none⟩) hg d).setCell (p:=⟨g,4,none⟩) hg e
theorem four_end {R:Ending → World → Prop} {a:Act} {W:World} {g:Nat} {t:TypeId} {nv p q r x y a0 b0 c0 d0 e0:Value} (hb:Blk W g t #[a0,b0,c0,d0,e0]) (h6:a.tmps.getD 6 undef = nv) (h7:a.tmps.getD 7 undef = .pointer (some ⟨g,0,none⟩)) (hd:a.defers = [])
    (hR:R (.returned (.tuple #[nv,.agg #[p,q,r,x,y]])) (set5 W g p q r x y)):bodyPost Tryz.prog Tryz.f85 R .ret a (set5 W g p q r x y):=by
  obtain ⟨n0,n1,n2,n3,n4⟩:=cells5 (set5_blk hb p q r x y)
  refine bodyPost_ret (v:=.tuple #[nv,.agg #[p,q,r,x,y]]) ?_ hd hR
  generalize set5 W g p q r x y = w at *
  rw [Array.getD_eq_getD_getElem?] at h6 h7
  simp [results,Tryz.results85,go_sem,h6,h7,n0,n1,n2,n3,n4]
set_option maxRecDepth 100000 in
set_option maxHeartbeats 1000000 in
theorem rfour_any (s:List UInt8) (at_:Nat) (low:Bool) (w:World) (hs:s.length ≤ 1000000000000) (ha:at_ ≤ 1000000000100) :
    Calls Tryz.prog 85 #[.string ⟨s.toArray⟩,.int .i64 (at_:Nat),.bool low] w fun e w'=>e = .returned (frV (four low 4 0 0 (s.drop at_) at_)) ∧ Below w.heap.size w w':=by
  obtain ⟨R,hR⟩:∃ R,four low 4 0 0 (s.drop at_) at_ = R:=⟨_,rfl⟩
  rw [hR]
  have HR:=Lib.hid hR
  have hb0:=Blk.new w 105 #[.string ⟨#[]⟩,.int .i64 0,.int .i64 0,.int .i64 0,.bool false]
  have HB0:=Lib.hid hb0
  have HBE:=Lib.hid (below_new w (.cells #[.string ⟨#[]⟩,.int .i64 0,.int .i64 0,.int .i64 0,.bool false] 105))
  clear hR hb0
  go_enter Tryz.func85,Tryz.ntmps85
  go_wp2_with fail
  generalize w.alloc (.cells #[.string ⟨#[]⟩,.int .i64 0,.int .i64 0,.int .i64 0,.bool false] 105) = w0 at *
  go_loop [8,9] (fun x y=>∃ n k:Nat,x = .int .i64 (n:Int) ∧ y = .int .i64 (k:Int) ∧ k ≤ 4 ∧ n < 16 ^ k ∧ four low (4 - k) k n (s.drop (at_ + k)) (at_ + k) = R) (fun x y=>4 - (intOf y).toNat)
  case atStart=>exact ⟨0,0,rfl,rfl,by omega,by decide,HR.out⟩
  case round =>
    obtain ⟨n,k,rfl,rfl,hk,hn0,hF⟩:=hrel
    have hn:n < 65536:=Nat.lt_of_lt_of_le hn0 (show 16 ^ k ≤ 16 ^ 4 from Nat.pow_le_pow_right (by omega) hk)
    have HN0:=Lib.hid hn0
    clear hn0
    obtain ⟨n0,n1,n2,n3,n4⟩:=cells5 HB0.out
    have f0:=HB0.out.frozen 0
    have f1:=HB0.out.frozen 1
    have f2:=HB0.out.frozen 2
    have f3:=HB0.out.frozen 3
    have f4:=HB0.out.frozen 4
    by_cases hk4:k < 4
    · obtain ⟨q,hq⟩:∃ q,at_ + k = q:=⟨_,rfl⟩
      have hqI:(at_:Int) + (k:Int) = (q:Int):=by omega
      have hqb:q ≤ 1000000000200:=by omega
      rw [hq] at hF
      by_cases hlen:s.length ≤ q
      · have hc:R = .cut:=by
          rw [← hF,List.drop_eq_nil_of_le hlen]
          obtain ⟨r,hr⟩:∃ r,4 - k = r + 1:=⟨3 - k,by omega⟩
          rw [hr];rfl
        have HC:=Lib.hid hc
        clear hF hc
        go_wp2_with fail
        refine four_end HB0.out rfl rfl rfl ⟨?_,set5_below HBE.out (Nat.le_refl _) _ _ _ _ _⟩
        rw [HC.out];rfl
      · have hql:q < s.length:=by omega
        obtain ⟨c,hc⟩:∃ c,s[q] = c:=⟨_,rfl⟩
        have hget:=get_c s q c hql hc
        have hdr:s.drop q = c :: s.drop (q + 1):=by rw [← hc];exact drop_at hql
        obtain ⟨r,hr⟩:∃ r,4 - k = r + 1:=⟨3 - k,by omega⟩
        have hr2:r = 4 - (k + 1):=by omega
        rw [hr,hdr,four_cons] at hF
        have HX:=Lib.hid (fun W=>rhex_any c W)
        have hqI2:(q:Int) < (s.length:Int):=by omega
        have hdl:decide ((s.length:Int) ≤ (q:Int)) = false:=by rw [decide_eq_false_iff_not];omega
        have x0:∃ b,((k:Int) == 0) = b ∧ (k == 0) = b:=⟨_,rfl,by rw [Bool.eq_iff_iff];simp⟩
        have x1:∃ b,((k:Int) == 1) = b ∧ (k == 1) = b:=⟨_,rfl,by rw [Bool.eq_iff_iff];simp;omega⟩
        obtain ⟨z0,x0,y0⟩:=x0
        obtain ⟨z1,x1,y1⟩:=x1
        have hz01:¬ (z0 = true ∧ z1 = true):=by
          rintro ⟨rfl,rfl⟩
          simp at y0 y1
          omega
        have HZ:=Lib.hid hz01
        clear hz01
        have HRB:=Lib.hid (fun no W=>rbad_any no (q:Int) W)
        cases hv:hexv c with
        | none =>
          have hV:hexV c = -1:=by unfold hexV;rw [hv]
          rw [hv] at hF
          simp only at hF
          rw [hV] at HX
          have HF:=Lib.hid hF
          clear hF hv hV hc hdr hr hr2 hlen y0 y1
          cases low
          · have x2:∃ b,((n:Int) == 13) = b:=⟨_,rfl⟩
            obtain ⟨z2,x2⟩:=x2
            cases z1 <;> cases z2 <;>
            ( go_wp2_with fail
              refine (HX.out _).mono ?_
              rintro e w1 ⟨rfl,rfl⟩
              go_wp2_with fail
              refine (HRB.out _ _).mono ?_
              rintro e w1 ⟨rfl,hb⟩
              have hbk:=HB0.out.below hb HB0.out.lt
              obtain ⟨n0,n1,n2,n3,n4⟩:=cells5 hbk
              have f0:=hbk.frozen 0
              have f1:=hbk.frozen 1
              have f2:=hbk.frozen 2
              have f3:=hbk.frozen 3
              have f4:=hbk.frozen 4
              have HBK:=Lib.hid hbk
              have HBE1:=Lib.hid (keepb HBE.out hb)
              clear hbk hb
              go_wp2_with fail
              refine four_end HBK.out rfl rfl rfl ⟨?_,set5_below HBE1.out (Nat.le_refl _) _ _ _ _ _⟩
              rw [← HF.out]
              rfl )
          · cases z0 <;> cases z1 <;> try (exact absurd ⟨rfl,rfl⟩ HZ.out)
            all_goals
              go_wp2_with fail
              refine (HX.out _).mono ?_
              rintro e w1 ⟨rfl,rfl⟩
              go_wp2_with fail
              refine (HRB.out _ _).mono ?_
              rintro e w1 ⟨rfl,hb⟩
              have hbk:=HB0.out.below hb HB0.out.lt
              obtain ⟨n0,n1,n2,n3,n4⟩:=cells5 hbk
              have f0:=hbk.frozen 0
              have f1:=hbk.frozen 1
              have f2:=hbk.frozen 2
              have f3:=hbk.frozen 3
              have f4:=hbk.frozen 4
              have HBK:=Lib.hid hbk
              have HBE1:=Lib.hid (keepb HBE.out hb)
              clear hbk hb
              go_wp2_with fail
              refine four_end HBK.out rfl rfl rfl ⟨?_,set5_below HBE1.out (Nat.le_refl _) _ _ _ _ _⟩
              rw [← HF.out]
              rfl
        | some v =>
          have hV:hexV c = (v:Int):=by unfold hexV;rw [hv]
          have hv16:=hexv_lt hv
          rw [hv] at hF
          simp only at hF
          rw [hV] at HX
          have e0:decide ((v:Int) < 0) = false:=by rw [decide_eq_false_iff_not];omega
          have t2:∃ x,decide (12 ≤ (v:Int)) = x ∧ decide (12 ≤ v) = x:=⟨_,rfl,by rw [Bool.eq_iff_iff];simp;omega⟩
          have t3:∃ x,decide ((v:Int) < 12) = x ∧ decide (v < 12) = x:=⟨_,rfl,by rw [Bool.eq_iff_iff];simp;omega⟩
          have t4:∃ x,((v:Int) != 13) = x ∧ (v != 13) = x:=⟨_,rfl,by rw [Bool.eq_iff_iff,bne_iff_ne,bne_iff_ne];omega⟩
          have t1:∃ x,((n:Int) == 13) = x ∧ (n == 13) = x:=⟨_,rfl,by rw [Bool.eq_iff_iff];simp;omega⟩
          obtain ⟨b2,t2,u2⟩:=t2
          obtain ⟨b3,t3,u3⟩:=t3
          obtain ⟨b4,t4,u4⟩:=t4
          obtain ⟨b1,t1,u1⟩:=t1
          have hlone:loneB low k n v = if low = true then (z0 && b4) || (z1 && b3) else z1 && b1 && b2:=by
            unfold loneB
            rw [u1,u2,u3,u4,y0,y1]
          obtain ⟨x,hx⟩:∃ x,16 * n + v = x:=⟨_,rfl⟩
          have hxI:16 * (n:Int) + (v:Int) = (x:Int):=by omega
          rw [hlone,hx,hr2] at hF
          have HF:=Lib.hid hF
          have HKK:=Lib.hid hq
          have HK4:=Lib.hid hk4
          have hxb:x < 2000000:=by omega
          have hxp:x < 16 ^ (k + 1):=by rw [Nat.pow_succ];have:=HN0.out;omega
          clear hF hv hV hc hdr hr hr2 hlen y0 y1 u1 u2 u3 u4 hlone hx
          have HXP:=Lib.hid hxp
          clear hxp
          cases low
          · cases z1
            · go_wp2_with fail
              refine (HX.out _).mono ?_
              rintro e w1 ⟨rfl,rfl⟩
              go_wp2_with fail
              go_round
              case rel =>
                have hf:=HF.out
                rw [show q + 1 = at_ + (k + 1) by have:=HKK.out;omega] at hf
                exact ⟨x,k + 1,rfl,by go_num,HK4.out,HXP.out,hf⟩
              case measure=>simp [intOf];omega
            · cases b1
              · go_wp2_with fail
                refine (HX.out _).mono ?_
                rintro e w1 ⟨rfl,rfl⟩
                go_wp2_with fail
                go_round
                case rel =>
                  have hf:=HF.out
                  rw [show q + 1 = at_ + (k + 1) by have:=HKK.out;omega] at hf
                  exact ⟨x,k + 1,rfl,by go_num,HK4.out,HXP.out,hf⟩
                case measure=>simp [intOf];omega
              · cases b2
                · go_wp2_with fail
                  refine (HX.out _).mono ?_
                  rintro e w1 ⟨rfl,rfl⟩
                  go_wp2_with fail
                  go_round
                  case rel =>
                    have hf:=HF.out
                    rw [show q + 1 = at_ + (k + 1) by have:=HKK.out;omega] at hf
                    exact ⟨x,k + 1,rfl,by go_num,HK4.out,HXP.out,hf⟩
                  case measure=>simp [intOf];omega
                · go_wp2_with fail
                  refine (HX.out _).mono ?_
                  rintro e w1 ⟨rfl,rfl⟩
                  go_wp2_with fail
                  refine (HRB.out _ _).mono ?_
                  rintro e w1 ⟨rfl,hb⟩
                  have hbk:=HB0.out.below hb HB0.out.lt
                  obtain ⟨n0,n1,n2,n3,n4⟩:=cells5 hbk
                  have f0:=hbk.frozen 0
                  have f1:=hbk.frozen 1
                  have f2:=hbk.frozen 2
                  have f3:=hbk.frozen 3
                  have f4:=hbk.frozen 4
                  have HBK:=Lib.hid hbk
                  have HBE1:=Lib.hid (keepb HBE.out hb)
                  clear hbk hb
                  go_wp2_with fail
                  refine four_end HBK.out rfl rfl rfl ⟨?_,set5_below HBE1.out (Nat.le_refl _) _ _ _ _ _⟩
                  rw [← HF.out]
                  rfl
          · cases z0
            · cases z1
              · go_wp2_with fail
                refine (HX.out _).mono ?_
                rintro e w1 ⟨rfl,rfl⟩
                go_wp2_with fail
                go_round
                case rel =>
                  have hf:=HF.out
                  rw [show q + 1 = at_ + (k + 1) by have:=HKK.out;omega] at hf
                  exact ⟨x,k + 1,rfl,by go_num,HK4.out,HXP.out,hf⟩
                case measure=>simp [intOf];omega
              · cases b3
                · go_wp2_with fail
                  refine (HX.out _).mono ?_
                  rintro e w1 ⟨rfl,rfl⟩
                  go_wp2_with fail
                  go_round
                  case rel =>
                    have hf:=HF.out
                    rw [show q + 1 = at_ + (k + 1) by have:=HKK.out;omega] at hf
                    exact ⟨x,k + 1,rfl,by go_num,HK4.out,HXP.out,hf⟩
                  case measure=>simp [intOf];omega
                · go_wp2_with fail
                  refine (HX.out _).mono ?_
                  rintro e w1 ⟨rfl,rfl⟩
                  go_wp2_with fail
                  refine (HRB.out _ _).mono ?_
                  rintro e w1 ⟨rfl,hb⟩
                  have hbk:=HB0.out.below hb HB0.out.lt
                  obtain ⟨n0,n1,n2,n3,n4⟩:=cells5 hbk
                  have f0:=hbk.frozen 0
                  have f1:=hbk.frozen 1
                  have f2:=hbk.frozen 2
                  have f3:=hbk.frozen 3
                  have f4:=hbk.frozen 4
                  have HBK:=Lib.hid hbk
                  have HBE1:=Lib.hid (keepb HBE.out hb)
                  clear hbk hb
                  go_wp2_with fail
                  refine four_end HBK.out rfl rfl rfl ⟨?_,set5_below HBE1.out (Nat.le_refl _) _ _ _ _ _⟩
                  rw [← HF.out]
                  rfl
            · have hz1:z1 = false:=by
                cases z1
                · rfl
                · exact absurd ⟨rfl,rfl⟩ HZ.out
              subst hz1
              cases b4
              · go_wp2_with fail
                refine (HX.out _).mono ?_
                rintro e w1 ⟨rfl,rfl⟩
                go_wp2_with fail
                go_round
                case rel =>
                  have hf:=HF.out
                  rw [show q + 1 = at_ + (k + 1) by have:=HKK.out;omega] at hf
                  exact ⟨x,k + 1,rfl,by go_num,HK4.out,HXP.out,hf⟩
                case measure=>simp [intOf];omega
              · go_wp2_with fail
                refine (HX.out _).mono ?_
                rintro e w1 ⟨rfl,rfl⟩
                go_wp2_with fail
                refine (HRB.out _ _).mono ?_
                rintro e w1 ⟨rfl,hb⟩
                have hbk:=HB0.out.below hb HB0.out.lt
                obtain ⟨n0,n1,n2,n3,n4⟩:=cells5 hbk
                have f0:=hbk.frozen 0
                have f1:=hbk.frozen 1
                have f2:=hbk.frozen 2
                have f3:=hbk.frozen 3
                have f4:=hbk.frozen 4
                have HBK:=Lib.hid hbk
                have HBE1:=Lib.hid (keepb HBE.out hb)
                clear hbk hb
                go_wp2_with fail
                refine four_end HBK.out rfl rfl rfl ⟨?_,set5_below HBE1.out (Nat.le_refl _) _ _ _ _ _⟩
                rw [← HF.out]
                rfl
    · obtain rfl:k = 4:=by omega
      have hc:R = .ok n:=by rw [← hF];rfl
      have HC:=Lib.hid hc
      clear hF hc hk hk4
      go_wp2_with fail
      refine four_end HB0.out rfl rfl rfl ⟨?_,set5_below HBE.out (Nat.le_refl _) _ _ _ _ _⟩
      rw [HC.out]
      rfl
end Go.Proofs.YtgmholdkdppbmaaGreatDoor.Lx

namespace Go.Proofs.YtgmholdkdppbmaaGreatDoor.Lx
open Go.RowKit
attribute [local go_sem ↓] Go.wp_at_zero Go.wp_at_succ
theorem four_scal (high:Nat):∀ (r k code:Nat) (l:List UInt8) (p v:Nat),DgOk k code high → k + (r + 1) = 4 → four (high != 0) (r + 1) k code l p = .ok v → ∃ c3 x,DgOk 3 c3 high ∧ x < 16 ∧ v = 16 * c3 + x
  | r,k,code,[],p,v,h,hk,hf=>by simp [four] at hf
  | r,k,code,c :: l,p,v,h,hk,hf=>by
    rw [four_cons] at hf
    cases hv:hexv c with
    | none=>rw [hv] at hf;cases hf
    | some x =>
      rw [hv] at hf
      simp only at hf
      by_cases hl:loneB (high != 0) k code x = true
      · rw [if_pos hl] at hf;cases hf
      · rw [if_neg hl] at hf
        cases r with
        | zero =>
          have hk3:k = 3:=by omega
          subst hk3
          have hv2:16 * code + x = v:=by
            simp only [four] at hf
            injection hf
          exact ⟨code,x,h,hexv_lt hv,hv2.symm⟩
        | succ r =>
          have hs:step (fun _=>none) 1 (.dig 0 [] k code high) c = .go (.dig 0 [] (k + 1) (16 * code + x) high) []:=by
            simp only [step,hv]
            rw [if_neg hl,if_neg (by omega)]
          have hok:=(step_ok (m:=.dig 0 [] k code high) ⟨by omega,by simp,h⟩ hs).1
          exact four_scal high r (k + 1) (16 * code + x) l (p + 1) v hok.2.2 (by omega) hf
theorem four_low (l:List UInt8) (p v:Nat) (h:four false 4 0 0 l p = .ok v):v < 65536 ∧ (v < 55296 ∨ 56319 < v → Scal v):=by
  obtain ⟨c3,x,h1,h2,rfl⟩:=four_scal 0 3 0 0 l p v ⟨.inl rfl,.inl ⟨rfl,rfl⟩⟩ (by omega) h
  have hw:=(whole_scal h1 h2).2 rfl
  obtain ⟨g1,g2⟩:=h1
  exact ⟨by omega,fun hr=>hw (by omega)⟩
theorem four_high (n:Nat) (hn:55296 ≤ n ∧ n ≤ 56319) (l:List UInt8) (p v:Nat) (h:four true 4 0 0 l p = .ok v):56320 ≤ v ∧ v ≤ 57343 ∧ Scal (65536 + (n - 55296) * 1024 + (v - 56320)):=by
  have hb:(n != 0) = true:=by rw [bne_iff_ne];omega
  obtain ⟨c3,x,h1,h2,rfl⟩:=four_scal n 3 0 0 l p v ⟨.inr hn,.inl ⟨rfl,rfl⟩⟩ (by omega) (by rw [hb];exact h)
  exact (whole_scal h1 h2).1 (by omega)
theorem piece_end {fn:Func} (hf:fn.results = #[.cell 4 105]) {R:Ending → World → Prop} {a:Act} {W:World} {g:Nat} {t:TypeId} {p q r x y a0 b0 c0 d0 e0:Value} (hb:Blk W g t #[a0,b0,c0,d0,e0]) (h7:a.tmps.getD 4 undef = .pointer (some ⟨g,0,none⟩)) (hd:a.defers = [])
    (hR:R (.returned (.agg #[p,q,r,x,y])) (set5 W g p q r x y)):bodyPost Tryz.prog fn R .ret a (set5 W g p q r x y):=by
  obtain ⟨n0,n1,n2,n3,n4⟩:=cells5 (set5_blk hb p q r x y)
  refine bodyPost_ret (v:=.agg #[p,q,r,x,y]) ?_ hd hR
  generalize set5 W g p q r x y = w at *
  rw [Array.getD_eq_getD_getElem?] at h7
  simp [results,hf,go_sem,h7,n0,n1,n2,n3,n4]
theorem piece_at {fn:Func} (hf:fn.results = #[.cell 4 105]) {R:Ending → World → Prop} {a:Act} {W:World} {g:Nat} {t:TypeId} {p q r x y:Value} (hb:Blk W g t #[p,q,r,x,y]) (h7:a.tmps.getD 4 undef = .pointer (some ⟨g,0,none⟩)) (hd:a.defers = [])
    (hR:R (.returned (.agg #[p,q,r,x,y])) W):bodyPost Tryz.prog fn R .ret a W:=by
  obtain ⟨n0,n1,n2,n3,n4⟩:=cells5 hb
  refine bodyPost_ret (v:=.agg #[p,q,r,x,y]) ?_ hd hR
  rw [Array.getD_eq_getD_getElem?] at h7
  simp [results,hf,go_sem,h7,n0,n1,n2,n3,n4]
def escT (n:Nat):R4 → Pc
  | .cut=>.cut
  | .bad no q=>.bad no q
  | .ok m=>.ok (enc (65536 + (n - 55296) * 1024 + (m - 56320))) 12
def escL (p n:Nat):List UInt8 → Pc
  | []=>.cut
  | d :: l3=>if d ≠ 92 then .bad 93 (p + 6) else match l3 with
    | []=>.cut
    | e :: l4=>if e ≠ 117 then .bad 93 (p + 7) else escT n (four true 4 0 0 l4 (p + 8))
def escD (p:Nat) (r:R4) (l:List UInt8):Pc:=match r with
  | .cut=>.cut
  | .bad no q=>.bad no q
  | .ok n=>if n < 55296 ∨ 56319 < n then .ok (enc n) 6 else escL p n l
theorem escP_D (b:UInt8) (l:List UInt8) (p:Nat):escP (b :: 117 :: l) p = escD p (four false 4 0 0 l (p + 2)) (l.drop 4):=by
  simp only [escP,if_true]
  cases four false 4 0 0 l (p + 2) with
  | cut=>rfl
  | bad no q=>rfl
  | ok n =>
    simp only [escD]
    split
    · rfl
    · cases l.drop 4 with
      | nil=>rfl
      | cons d l3 =>
        simp only [escL]
        split
        · rfl
        · cases l3 with
          | nil=>rfl
          | cons e l4 =>
            simp only []
            split
            · rfl
            · cases four true 4 0 0 l4 (p + 8) <;> rfl
theorem piece_new {fn:Func} (hf:fn.results = #[.cell 4 105]) {R:Ending → World → Prop} {a:Act} {W:World} {t:TypeId} {p q r x y:Value} (h7:a.tmps.getD 4 undef = .pointer (some ⟨W.heap.size,0,none⟩)) (hd:a.defers = [])
    (hR:R (.returned (.agg #[p,q,r,x,y])) (W.alloc (.cells #[p,q,r,x,y] t))):bodyPost Tryz.prog fn R .ret a (W.alloc (.cells #[p,q,r,x,y] t)):=by
  obtain ⟨n0,n1,n2,n3,n4⟩:=cells5 (Blk.new W t #[p,q,r,x,y])
  refine bodyPost_ret (v:=.agg #[p,q,r,x,y]) ?_ hd hR
  generalize W.alloc (.cells #[p,q,r,x,y] t) = w at *
  rw [Array.getD_eq_getD_getElem?] at h7
  simp [results,hf,go_sem,h7,n0,n1,n2,n3,n4]
theorem sum_small (a m v r:Nat) (ha:a < 1024) (g:56320 ≤ m ∧ m ≤ 57343) (hv:65536 + a * 1024 + m = v) (hr:65536 + a * 1024 + (m - 56320) = r):wrap64 (v:Int) = v ∧ wrap64 (r:Int) = r ∧ (v:Int) - 56320 = r ∧ wrap32 (r:Int) = r:=by
  have h1:(v:Int) ≤ 2000000:=by omega
  have h2:(r:Int) ≤ 2000000:=by omega
  refine ⟨IntWalk.wrap64_in _ ⟨by omega,by omega⟩,IntWalk.wrap64_in _ ⟨by omega,by omega⟩,by omega,IntWalk.wrap32_in _ ⟨by omega,by omega⟩⟩
set_option maxRecDepth 100000 in
set_option maxHeartbeats 4000000 in
theorem resc_any (s:List UInt8) (i:Nat) (w:World) (hi:i < s.length) (hs:s.length ≤ 1000000000000) :
    Calls Tryz.prog 68 #[.string ⟨s.toArray⟩,.int .i64 (i:Nat)] w fun e w'=>e = .returned (pcV (escP (s.drop i) i)) ∧ Below w.heap.size w w':=by
  have hb0:=Blk.new w 105 #[.string ⟨#[]⟩,.int .i64 0,.int .i64 0,.int .i64 0,.bool false]
  have HB0:=Lib.hid hb0
  have HE0:=Lib.hid (below_new w (.cells #[.string ⟨#[]⟩,.int .i64 0,.int .i64 0,.int .i64 0,.bool false] 105))
  obtain ⟨n0,n1,n2,n3,n4⟩:=cells5 hb0
  have f0:=hb0.frozen 0
  have f1:=hb0.frozen 1
  have f2:=hb0.frozen 2
  have f3:=hb0.frozen 3
  have f4:=hb0.frozen 4
  obtain ⟨q,hq⟩:∃ q,i + 1 = q:=⟨_,rfl⟩
  have hqI:(i:Int) + 1 = (q:Int):=by omega
  have hdr:s.drop i = s[i] :: s.drop q:=by rw [← hq];exact drop_at hi
  clear hb0
  by_cases hl:s.length ≤ q
  · have hc:escP (s.drop i) i = .cut:=by rw [hdr,List.drop_eq_nil_of_le hl];rfl
    rw [hc]
    have hdl:decide ((s.length:Int) ≤ (q:Int)) = true:=by rw [decide_eq_true_iff];omega
    clear hc hdr
    go_enter Tryz.func68,Tryz.ntmps68
    go_wp2_with fail
    exact piece_new rfl rfl rfl ⟨rfl,(Below.refl _ _).alloc (Nat.le_refl _) _⟩
  have hql:q < s.length:=by omega
  obtain ⟨c,hc⟩:∃ c,s[q] = c:=⟨_,rfl⟩
  have hget:=get_c s q c hql hc
  obtain ⟨q2,hq2⟩:∃ q2,i + 2 = q2:=⟨_,rfl⟩
  have hq2I:(i:Int) + 2 = (q2:Int):=by omega
  have hdr2:s.drop q = c :: s.drop q2:=by rw [← hc,show q2 = q + 1 by omega];exact drop_at hql
  have hqI2:(q:Int) < (s.length:Int):=by omega
  have hdl:decide ((s.length:Int) ≤ (q:Int)) = false:=by rw [decide_eq_false_iff_not];omega
  have hne:((c.toNat:Int) != 117) = !decide (c = 117):=by
    have:=bit_byte c 117
    rw [← this];rfl
  rw [hdr,hdr2]
  by_cases h117:c = 117
  case neg =>
    rw [decide_eq_false h117] at hne
    have hE:escP (s[i] :: c :: s.drop q2) i = match simp1 c with
      | none=>.bad 92 (i + 1)
      | some b=>.ok [b] 2:=by
      simp only [escP,if_neg h117]
      cases simp1 c <;> rfl
    rw [hE,hq]
    have HS:=Lib.hid (fun W=>rsimple_any c W)
    cases hs1:simp1 c with
    | none =>
      have hV:simpV c = -1:=by unfold simpV;rw [hs1]
      rw [hV] at HS
      have HRB:=Lib.hid (fun W=>rbad_any 92 (q:Int) W)
      clear hE hdr hdr2 hc hq hq2 hq2I h117 hs1 hV hl
      go_enter Tryz.func68,Tryz.ntmps68
      go_wp2_with fail
      refine (HS.out _).mono ?_
      rintro e w1 ⟨rfl,rfl⟩
      go_wp2_with fail
      refine (HRB.out _).mono ?_
      rintro e w1 ⟨rfl,hb⟩
      have hbk1:=HB0.out.below hb HB0.out.lt
      obtain ⟨n0,n1,n2,n3,n4⟩:=cells5 hbk1
      have f0:=hbk1.frozen 0
      have f1:=hbk1.frozen 1
      have f2:=hbk1.frozen 2
      have f3:=hbk1.frozen 3
      have f4:=hbk1.frozen 4
      have HB1:=Lib.hid hbk1
      have HE1:=Lib.hid (keepb HE0.out hb)
      clear hbk1
      go_wp2_with fail
      exact piece_end rfl HB1.out rfl rfl ⟨rfl,set5_below HE1.out (Nat.le_refl _) _ _ _ _ _⟩
    | some x =>
      have hV:simpV c = (x.toNat:Int):=by unfold simpV;rw [hs1]
      rw [hV] at HS
      have hx:=UInt8.toNat_lt x
      have HON:Hid (∀ (W:World) (c':Nat),(convert 22 9 (.slice (some ⟨W.heap.size,0,none⟩) 1 c')).run Tryz.prog (W.alloc (.cells #[bv x] 5)) = .ok (.string ⟨[x].toArray⟩) (W.alloc (.cells #[bv x] 5))):=Lib.hid (fun W c'=>by
        have hrb:RB (W.alloc (.cells #[bv x] 5)) (W.heap.size + 1) (some ⟨W.heap.size,0,none⟩) 1 [x]:=by
          have hb:Blk (W.alloc (.cells #[bv x] 5)) W.heap.size 5 #[bv x]:=Blk.new W 5 #[bv x]
          refine ⟨rfl,fun _=>⟨_,_,rfl,by omega,fun j hj=>?_⟩⟩
          rw [Nat.zero_add,hb.cell j]
          obtain rfl:j = 0:=by simpa using hj
          rfl
        exact str_of_RB hrb c')
      have hco:=HON.out (w.alloc (.cells #[.string ⟨#[]⟩,.int .i64 0,.int .i64 0,.int .i64 0,.bool false] 105)) 1
      rw [World.size_alloc] at hco
      have hbv:bv x = .int .u8 (x.toNat:Int):=rfl
      rw [hbv] at hco
      clear hE hdr hdr2 hc hq hq2 hq2I h117 hs1 hV hl
      go_enter Tryz.func68,Tryz.ntmps68
      go_wp2_with fail
      refine (HS.out _).mono ?_
      rintro e w1 ⟨rfl,rfl⟩
      go_wp2_with fail
      exact piece_at rfl ((Blk.new w 105 #[.string ⟨[x].toArray⟩,.int .i64 2,.int .i64 0,.int .i64 0,.bool false]).alloc _) rfl rfl ⟨rfl,((Below.refl _ _).alloc (Nat.le_refl _) _).alloc (by simp) _⟩
  subst h117
  rw [decide_eq_true rfl] at hne
  have hE:escP (s[i] :: 117 :: s.drop q2) i = escD i (four false 4 0 0 (s.drop q2) q2) ((s.drop q2).drop 4):=by
    rw [← hq2]
    exact escP_D _ _ _
  rw [hE]
  have HR:=Lib.hid (fun W=>rfour_any s q2 false W hs (by omega))
  clear hE hdr hdr2 hc hq hl
  rcases hF:four false 4 0 0 (s.drop q2) q2 with n | ⟨no,p⟩ | _
  · -- four digits
    obtain ⟨hn16',hsc⟩:=four_low _ _ _ hF
    have HN16:=Lib.hid hn16'
    have hw32:wrap32 (n:Int) = (n:Int):=by unfold wrap32;omega
    clear hn16'
    obtain ⟨RES,hRES⟩:∃ RES,escD i (.ok n) ((s.drop q2).drop 4) = RES:=⟨_,rfl⟩
    have HRES0:=Lib.hid hRES
    rw [hRES]
    clear hRES
    rw [hF,show frV (.ok n) = .tuple #[.int .i64 (n:Nat),.agg #[.string ⟨#[]⟩,.int .i64 0,.int .i64 0,.int .i64 0,.bool false]] from rfl] at HR
    have HNN:=Lib.hid (And.intro hq2 hsc)
    clear hF hq2 hsc
    go_enter Tryz.func68,Tryz.ntmps68
    go_wp2_with fail
    refine (HR.out _).mono ?_
    rintro e w1 ⟨rfl,hb⟩
    have hbk1:=HB0.out.below hb HB0.out.lt
    obtain ⟨n0,n1,n2,n3,n4⟩:=cells5 hbk1
    have f0:=hbk1.frozen 0
    have f1:=hbk1.frozen 1
    have f2:=hbk1.frozen 2
    have f3:=hbk1.frozen 3
    have f4:=hbk1.frozen 4
    have HB1:=Lib.hid hbk1
    have HE1:=Lib.hid (keepb HE0.out hb)
    clear hbk1
    have HB2:=Lib.hid (HB1.out.alloc (.cells #[.string ⟨#[]⟩,.int .i64 0,.int .i64 0,.int .i64 0,.bool false] 105))
    have HE2:=Lib.hid (keepb HE1.out (below_new w1 (.cells #[.string ⟨#[]⟩,.int .i64 0,.int .i64 0,.int .i64 0,.bool false] 105)))
    clear n0 n1 n2 n3 n4 f0 f1 f2 f3 f4 hb
    obtain ⟨n0,n1,n2,n3,n4⟩:=cells5 HB2.out
    have f0:=(HB2.out).frozen 0
    have f1:=(HB2.out).frozen 1
    have f2:=(HB2.out).frozen 2
    have f3:=(HB2.out).frozen 3
    have f4:=(HB2.out).frozen 4
    by_cases hsur:n < 55296 ∨ 56319 < n
    · have hD:∀ l,escD i (.ok n) l = .ok (enc n) 6:=fun l=>by
        simp only [escD,if_pos hsur]
      have hr:RES = .ok (enc n) 6:=by rw [← HRES0.out,hD]
      have HRR:=Lib.hid hr
      clear hr hD
      have HEN:=Lib.hid (fun W=>rencode_ok n W (HNN.out.2 hsur))
      have e1:decide ((n:Int) < 55296) = true ∨ (decide ((n:Int) < 55296) = false ∧ decide (56319 < (n:Int)) = true):=by
        rcases Nat.lt_or_ge n 55296 with h | h
        · left;rw [decide_eq_true_iff];omega
        · right;refine ⟨by rw [decide_eq_false_iff_not];omega,by rw [decide_eq_true_iff];omega⟩
      clear hsur
      rcases e1 with e1 | ⟨e1,e2⟩ <;>
      ( go_wp2_with fail
        refine (HEN.out _).mono ?_
        rintro e w3 ⟨rfl,hb⟩
        have hbk3:=HB2.out.below hb HB2.out.lt
        obtain ⟨n0,n1,n2,n3,n4⟩:=cells5 hbk3
        have f0:=hbk3.frozen 0
        have f1:=hbk3.frozen 1
        have f2:=hbk3.frozen 2
        have f3:=hbk3.frozen 3
        have f4:=hbk3.frozen 4
        have HB3:=Lib.hid hbk3
        have HE3:=Lib.hid (keepb HE2.out hb)
        clear hbk3
        clear hb
        go_wp2_with fail
        refine piece_end rfl HB3.out rfl rfl ⟨?_,set5_below HE3.out (Nat.le_refl _) _ _ _ _ _⟩
        rw [HRR.out]
        rfl )
    · have hs2:55296 ≤ n ∧ n ≤ 56319:=by omega
      have hD:∀ l,escD i (.ok n) l = escL i n l:=fun l=>by
        simp only [escD,if_neg hsur]
      have E1:=Lib.hid (show decide ((n:Int) < 55296) = false by rw [decide_eq_false_iff_not];omega)
      have E2:=Lib.hid (show decide (56319 < (n:Int)) = false by rw [decide_eq_false_iff_not];omega)
      obtain ⟨q6,hq6⟩:∃ q6,i + 6 = q6:=⟨_,rfl⟩
      obtain ⟨q7,hq7⟩:∃ q7,i + 7 = q7:=⟨_,rfl⟩
      obtain ⟨q8,hq8⟩:∃ q8,i + 8 = q8:=⟨_,rfl⟩
      have hd6:(s.drop q2).drop 4 = s.drop q6:=by rw [List.drop_drop,show q2 + 4 = q6 by have:=HNN.out.1;omega]
      have HRES:Hid (escL i n (s.drop q6) = RES):=Lib.hid (by rw [← HRES0.out,hD,hd6])
      have hq6I:(i:Int) + 6 = (q6:Int):=by omega
      have hq7I:(q6:Int) + 1 = (q7:Int):=by omega
      have hq8I:(i:Int) + 8 = (q8:Int):=by omega
      have HQ:=Lib.hid (And.intro hq6 (And.intro hq7 hq8))
      have HS2:=Lib.hid hs2
      clear hsur hs2 hd6 hD hq6 hq7 hq8 n0 n1 n2 n3 n4 f0 f1 f2 f3 f4
      have B0:Hid ((({ data:=#[92,117] }:ByteArray)[0]'(by decide)).toNat = 92):=Lib.hid (by decide)
      have B1:Hid ((({ data:=#[92,117] }:ByteArray)[1]'(by decide)).toNat = 117):=Lib.hid (by decide)
      obtain ⟨n0,n1,n2,n3,n4⟩:=cells5 HB2.out
      have f0:=(HB2.out).frozen 0
      have f1:=(HB2.out).frozen 1
      have f2:=(HB2.out).frozen 2
      have f3:=(HB2.out).frozen 3
      have f4:=(HB2.out).frozen 4
      have e1:=E1.out
      have e2:=E2.out
      go_wp2_with fail
      clear e1 e2 hne hget hqI2 hdl hw32 hqI hq2I hql n0 n1 n2 n3 n4 f0 f1 f2 f3 f4
      generalize w1.alloc (.cells #[.string ⟨#[]⟩,.int .i64 0,.int .i64 0,.int .i64 0,.bool false] 105) = W at *
      obtain ⟨n0,n1,n2,n3,n4⟩:=cells5 HB2.out
      have f0:=(HB2.out).frozen 0
      have f1:=(HB2.out).frozen 1
      have f2:=(HB2.out).frozen 2
      have f3:=(HB2.out).frozen 3
      have f4:=(HB2.out).frozen 4
      go_loopw [9] (fun x wr=>(x = .int .i64 0 ∨ (x = .int .i64 1 ∧ ∃ h:q6 < s.length,s[q6] = 92) ∨ (x = .int .i64 2 ∧ (∃ h:q6 < s.length,s[q6] = 92) ∧ ∃ h:q7 < s.length,s[q7] = 117)) ∧ Blk wr w.heap.size 105 #[.string ⟨#[]⟩,.int .i64 0,.int .i64 0,.int .i64 0,.bool false] ∧ Below w.heap.size w wr) (fun x _=>2 - (intOf x).toNat)
      case atStart=>exact ⟨.inl rfl,HB2.out,HE2.out⟩
      case round =>
        obtain ⟨hrel,hk2,he2⟩:=hrel
        clear HB2 HE2 n0 n1 n2 n3 n4 f0 f1 f2 f3 f4
        have HB2:=Lib.hid hk2
        have HE2:=Lib.hid he2
        clear hk2 he2
        obtain ⟨n0,n1,n2,n3,n4⟩:=cells5 HB2.out
        have f0:=(HB2.out).frozen 0
        have f1:=(HB2.out).frozen 1
        have f2:=(HB2.out).frozen 2
        have f3:=(HB2.out).frozen 3
        have f4:=(HB2.out).frozen 4
        rcases hrel with rfl | ⟨rfl,h6,h92⟩ | ⟨rfl,⟨h6,h92⟩,h7,h117⟩
        · by_cases hl6:s.length ≤ q6
          · have hd:decide ((s.length:Int) ≤ (q6:Int)) = true:=by rw [decide_eq_true_iff];omega
            have hdN:decide (s.length ≤ q6) = true:=by rw [decide_eq_true_iff];omega
            have hr:escL i n (s.drop q6) = .cut:=by rw [List.drop_eq_nil_of_le hl6];rfl
            have HRR:=Lib.hid hr
            clear hr hl6
            go_wp2_with fail
            refine piece_end rfl HB2.out rfl rfl ⟨?_,set5_below HE2.out (Nat.le_refl _) _ _ _ _ _⟩
            rw [← HRES.out,HRR.out]
            rfl
          · have h6:q6 < s.length:=by omega
            obtain ⟨d,hd⟩:∃ d,s[q6] = d:=⟨_,rfl⟩
            have hgt:=get_c s q6 d h6 hd
            have hdl6:decide ((s.length:Int) ≤ (q6:Int)) = false:=by rw [decide_eq_false_iff_not];omega
            have hdlN6:decide (s.length ≤ q6) = false:=by rw [decide_eq_false_iff_not];omega
            have b0:=B0.out
            have h6I:(q6:Int) < (s.length:Int):=by omega
            have hn92:((d.toNat:Int) != 92) = !decide (d = 92):=by
              have:=bit_byte d 92
              rw [← this];rfl
            by_cases h92:d = 92
            · rw [decide_eq_true h92] at hn92
              have HD:=Lib.hid (hd.trans h92)
              clear hl6 h92 hd
              go_wp2_with fail
              go_quiet (fail)
              have HB2q:=Lib.hid (HB2.out.drewN nq)
              have HE2q:=Lib.hid (below_drewN HE2.out nq)
              go_wp2_with fail
              go_roundw
              case rel=>exact ⟨.inr (.inl ⟨by go_num,h6,HD.out⟩),HB2q.out,HE2q.out⟩
              case measure=>simp [intOf]
            · rw [decide_eq_false h92] at hn92
              have hr:escL i n (s.drop q6) = .bad 93 q6:=by
                rw [drop_at h6,hd]
                simp only [escL,ne_eq,h92,not_false_eq_true,if_true]
                rw [HQ.out.1]
              have HRR:=Lib.hid hr
              have HRB:=Lib.hid (fun W=>rbad_any 93 (q6:Int) W)
              clear hl6 h92 hd hr
              go_wp2_with fail
              go_quiet (fail)
              have HB2q:=Lib.hid (HB2.out.drewN nq)
              have HE2q:=Lib.hid (below_drewN HE2.out nq)
              go_wp2_with fail
              refine (HRB.out _).mono ?_
              rintro e w3 ⟨rfl,hb⟩
              have hbk3:=HB2q.out.below hb HB2q.out.lt
              obtain ⟨n0,n1,n2,n3,n4⟩:=cells5 hbk3
              have f0:=hbk3.frozen 0
              have f1:=hbk3.frozen 1
              have f2:=hbk3.frozen 2
              have f3:=hbk3.frozen 3
              have f4:=hbk3.frozen 4
              have HB3:=Lib.hid hbk3
              have HE3:=Lib.hid (keepb HE2q.out hb)
              clear hbk3
              clear hb
              go_wp2_with fail
              refine piece_end rfl HB3.out rfl rfl ⟨?_,set5_below HE3.out (Nat.le_refl _) _ _ _ _ _⟩
              rw [← HRES.out,HRR.out]
              rfl
        · by_cases hl7:s.length ≤ q7
          · have hd:decide ((s.length:Int) ≤ (q7:Int)) = true:=by rw [decide_eq_true_iff];omega
            have hdN:decide (s.length ≤ q7) = true:=by rw [decide_eq_true_iff];omega
            have hr:escL i n (s.drop q6) = .cut:=by
              rw [drop_at h6,h92,show q6 + 1 = q7 by have:=HQ.out;omega,List.drop_eq_nil_of_le hl7];rfl
            have HRR:=Lib.hid hr
            clear hr hl7 h92
            go_wp2_with fail
            refine piece_end rfl HB2.out rfl rfl ⟨?_,set5_below HE2.out (Nat.le_refl _) _ _ _ _ _⟩
            rw [← HRES.out,HRR.out]
            rfl
          · have h7:q7 < s.length:=by omega
            obtain ⟨d,hd⟩:∃ d,s[q7] = d:=⟨_,rfl⟩
            have hgt:=get_c s q7 d h7 hd
            have hdl7:decide ((s.length:Int) ≤ (q7:Int)) = false:=by rw [decide_eq_false_iff_not];omega
            have hdlN7:decide (s.length ≤ q7) = false:=by rw [decide_eq_false_iff_not];omega
            have b1:=B1.out
            have h7I:(q7:Int) < (s.length:Int):=by omega
            have hn117:((d.toNat:Int) != 117) = !decide (d = 117):=by
              have:=bit_byte d 117
              rw [← this];rfl
            have H92:=Lib.hid h92
            by_cases h117:d = 117
            · rw [decide_eq_true h117] at hn117
              have HD:=Lib.hid (hd.trans h117)
              clear hl7 h117 hd h92
              go_wp2_with fail
              go_quiet (fail)
              have HB2q:=Lib.hid (HB2.out.drewN nq)
              have HE2q:=Lib.hid (below_drewN HE2.out nq)
              go_wp2_with fail
              go_roundw
              case rel=>exact ⟨.inr (.inr ⟨by go_num,⟨h6,H92.out⟩,h7,HD.out⟩),HB2q.out,HE2q.out⟩
              case measure=>simp [intOf]
            · rw [decide_eq_false h117] at hn117
              have hr:escL i n (s.drop q6) = .bad 93 q7:=by
                rw [drop_at h6,h92,show q6 + 1 = q7 by have:=HQ.out;omega,drop_at h7,hd]
                simp only [escL,ne_eq,not_true_eq_false,if_false,h117,not_false_eq_true,if_true]
                rw [HQ.out.2.1]
              have HRR:=Lib.hid hr
              have HRB:=Lib.hid (fun W=>rbad_any 93 (q7:Int) W)
              clear hl7 h117 hd hr h92
              go_wp2_with fail
              go_quiet (fail)
              have HB2q:=Lib.hid (HB2.out.drewN nq)
              have HE2q:=Lib.hid (below_drewN HE2.out nq)
              go_wp2_with fail
              refine (HRB.out _).mono ?_
              rintro e w3 ⟨rfl,hb⟩
              have hbk3:=HB2q.out.below hb HB2q.out.lt
              obtain ⟨n0,n1,n2,n3,n4⟩:=cells5 hbk3
              have f0:=hbk3.frozen 0
              have f1:=hbk3.frozen 1
              have f2:=hbk3.frozen 2
              have f3:=hbk3.frozen 3
              have f4:=hbk3.frozen 4
              have HB3:=Lib.hid hbk3
              have HE3:=Lib.hid (keepb HE2q.out hb)
              clear hbk3
              clear hb
              go_wp2_with fail
              refine piece_end rfl HB3.out rfl rfl ⟨?_,set5_below HE3.out (Nat.le_refl _) _ _ _ _ _⟩
              rw [← HRES.out,HRR.out]
              rfl
        · have hr:escL i n (s.drop q6) = escT n (four true 4 0 0 (s.drop q8) q8):=by
            rw [drop_at h6,h92,show q6 + 1 = q7 by have:=HQ.out;omega,drop_at h7,h117,show q7 + 1 = q8 by have:=HQ.out;omega]
            simp only [escL,ne_eq,not_true_eq_false,if_false]
            rw [HQ.out.2.2]
          have hq8b:q8 ≤ 1000000000100:=by have:=HQ.out;omega
          have HR8:=Lib.hid (fun W=>rfour_any s q8 true W hs hq8b)
          have HRR:=Lib.hid hr
          clear hr h92 h117 h6 h7
          rcases hF:four true 4 0 0 (s.drop q8) q8 with m | ⟨no,p⟩ | _
          · obtain ⟨g1,g2,g3⟩:=four_high n HS2.out _ _ _ hF
            rw [hF,show frV (.ok m) = .tuple #[.int .i64 (m:Nat),.agg #[.string ⟨#[]⟩,.int .i64 0,.int .i64 0,.int .i64 0,.bool false]] from rfl] at HR8
            rw [hF] at HRR
            obtain ⟨a,ha⟩:∃ a,n - 55296 = a:=⟨_,rfl⟩
            obtain ⟨r,hrr⟩:∃ r,65536 + a * 1024 + (m - 56320) = r:=⟨_,rfl⟩
            rw [ha,hrr] at g3
            have hs2:=HS2.out
            have y1:(n:Int) - 55296 = (a:Int):=by omega
            have ha1:(a:Int) < 1024:=by omega
            obtain ⟨v,hv⟩:∃ v,65536 + a * 1024 + m = v:=⟨_,rfl⟩
            have y2:65536 + (a:Int) * 1024 + (m:Int) = (v:Int):=by omega
            obtain ⟨hw64v,hw64r,y3,hw32r⟩:=sum_small a m v r (by omega) ⟨g1,g2⟩ hv hrr
            have HEN:=Lib.hid (fun W=>rencode_ok r W g3)
            have hres:escT n (.ok m) = .ok (enc r) 12:=by
              show Pc.ok (enc (65536 + (n - 55296) * 1024 + (m - 56320))) 12 = _
              rw [ha,hrr]
            rw [hres] at HRR
            clear hF g1 g2 g3 hrr ha hres hs2 hv
            go_wp2_with fail
            refine (HR8.out _).mono ?_
            rintro e w3 ⟨rfl,hb⟩
            have hbk3:=HB2.out.below hb HB2.out.lt
            obtain ⟨n0,n1,n2,n3,n4⟩:=cells5 hbk3
            have f0:=hbk3.frozen 0
            have f1:=hbk3.frozen 1
            have f2:=hbk3.frozen 2
            have f3:=hbk3.frozen 3
            have f4:=hbk3.frozen 4
            have HB3:=Lib.hid hbk3
            have HE3:=Lib.hid (keepb HE2.out hb)
            clear hbk3
            have HB4:=Lib.hid (HB3.out.alloc (.cells #[.string ⟨#[]⟩,.int .i64 0,.int .i64 0,.int .i64 0,.bool false] 105))
            have HE4:=Lib.hid (keepb HE3.out (below_new w3 (.cells #[.string ⟨#[]⟩,.int .i64 0,.int .i64 0,.int .i64 0,.bool false] 105)))
            clear n0 n1 n2 n3 n4 f0 f1 f2 f3 f4 hb
            obtain ⟨n0,n1,n2,n3,n4⟩:=cells5 HB4.out
            have f0:=(HB4.out).frozen 0
            have f1:=(HB4.out).frozen 1
            have f2:=(HB4.out).frozen 2
            have f3:=(HB4.out).frozen 3
            have f4:=(HB4.out).frozen 4
            go_wp2_with fail
            refine (HEN.out _).mono ?_
            rintro e w5 ⟨rfl,hb⟩
            have hbk5:=HB4.out.below hb HB4.out.lt
            obtain ⟨n0,n1,n2,n3,n4⟩:=cells5 hbk5
            have f0:=hbk5.frozen 0
            have f1:=hbk5.frozen 1
            have f2:=hbk5.frozen 2
            have f3:=hbk5.frozen 3
            have f4:=hbk5.frozen 4
            have HB5:=Lib.hid hbk5
            have HE5:=Lib.hid (keepb HE4.out hb)
            clear hbk5
            clear hb
            go_wp2_with fail
            refine piece_end rfl HB5.out rfl rfl ⟨?_,set5_below HE5.out (Nat.le_refl _) _ _ _ _ _⟩
            rw [← HRES.out,HRR.out]
            rfl
          · have hno:=four_no _ _ _ _ _ _ _ _ hF
            rw [hF,show frV (.bad no p) = .tuple #[.int .i64 0,.agg #[.string ⟨#[]⟩,.int .i64 0,.int .i64 (no:Nat),.int .i64 (p:Nat),.bool false]] from rfl] at HR8
            rw [hF] at HRR
            have e3:((no:Int) != 0) = true:=by rw [bne_iff_ne];omega
            clear hF hno
            go_wp2_with fail
            refine (HR8.out _).mono ?_
            rintro e w3 ⟨rfl,hb⟩
            have hbk3:=HB2.out.below hb HB2.out.lt
            obtain ⟨n0,n1,n2,n3,n4⟩:=cells5 hbk3
            have f0:=hbk3.frozen 0
            have f1:=hbk3.frozen 1
            have f2:=hbk3.frozen 2
            have f3:=hbk3.frozen 3
            have f4:=hbk3.frozen 4
            have HB3:=Lib.hid hbk3
            have HE3:=Lib.hid (keepb HE2.out hb)
            clear hbk3
            have HB4:=Lib.hid (HB3.out.alloc (.cells #[.string ⟨#[]⟩,.int .i64 0,.int .i64 (no:Nat),.int .i64 (p:Nat),.bool false] 105))
            have HE4:=Lib.hid (keepb HE3.out (below_new w3 (.cells #[.string ⟨#[]⟩,.int .i64 0,.int .i64 (no:Nat),.int .i64 (p:Nat),.bool false] 105)))
            clear n0 n1 n2 n3 n4 f0 f1 f2 f3 f4 hb
            obtain ⟨n0,n1,n2,n3,n4⟩:=cells5 HB4.out
            have f0:=(HB4.out).frozen 0
            have f1:=(HB4.out).frozen 1
            have f2:=(HB4.out).frozen 2
            have f3:=(HB4.out).frozen 3
            have f4:=(HB4.out).frozen 4
            go_wp2_with fail
            refine piece_end rfl HB4.out rfl rfl ⟨?_,set5_below HE4.out (Nat.le_refl _) _ _ _ _ _⟩
            rw [← HRES.out,HRR.out]
            rfl
          · rw [hF,show frV .cut = .tuple #[.int .i64 0,.agg #[.string ⟨#[]⟩,.int .i64 0,.int .i64 0,.int .i64 0,.bool true]] from rfl] at HR8
            rw [hF] at HRR
            clear hF
            go_wp2_with fail
            refine (HR8.out _).mono ?_
            rintro e w3 ⟨rfl,hb⟩
            have hbk3:=HB2.out.below hb HB2.out.lt
            obtain ⟨n0,n1,n2,n3,n4⟩:=cells5 hbk3
            have f0:=hbk3.frozen 0
            have f1:=hbk3.frozen 1
            have f2:=hbk3.frozen 2
            have f3:=hbk3.frozen 3
            have f4:=hbk3.frozen 4
            have HB3:=Lib.hid hbk3
            have HE3:=Lib.hid (keepb HE2.out hb)
            clear hbk3
            have HB4:=Lib.hid (HB3.out.alloc (.cells #[.string ⟨#[]⟩,.int .i64 0,.int .i64 0,.int .i64 0,.bool true] 105))
            have HE4:=Lib.hid (keepb HE3.out (below_new w3 (.cells #[.string ⟨#[]⟩,.int .i64 0,.int .i64 0,.int .i64 0,.bool true] 105)))
            clear n0 n1 n2 n3 n4 f0 f1 f2 f3 f4 hb
            obtain ⟨n0,n1,n2,n3,n4⟩:=cells5 HB4.out
            have f0:=(HB4.out).frozen 0
            have f1:=(HB4.out).frozen 1
            have f2:=(HB4.out).frozen 2
            have f3:=(HB4.out).frozen 3
            have f4:=(HB4.out).frozen 4
            go_wp2_with fail
            refine piece_end rfl HB4.out rfl rfl ⟨?_,set5_below HE4.out (Nat.le_refl _) _ _ _ _ _⟩
            rw [← HRES.out,HRR.out]
            rfl
  · have hno:=four_no _ _ _ _ _ _ _ _ hF
    rw [hF,show frV (.bad no p) = .tuple #[.int .i64 0,.agg #[.string ⟨#[]⟩,.int .i64 0,.int .i64 (no:Nat),.int .i64 (p:Nat),.bool false]] from rfl] at HR
    have e1:((no:Int) != 0) = true:=by rw [bne_iff_ne];omega
    clear hF hq2 hno
    go_enter Tryz.func68,Tryz.ntmps68
    go_wp2_with fail
    refine (HR.out _).mono ?_
    rintro e w1 ⟨rfl,hb⟩
    have hbk1:=HB0.out.below hb HB0.out.lt
    obtain ⟨n0,n1,n2,n3,n4⟩:=cells5 hbk1
    have f0:=hbk1.frozen 0
    have f1:=hbk1.frozen 1
    have f2:=hbk1.frozen 2
    have f3:=hbk1.frozen 3
    have f4:=hbk1.frozen 4
    have HB1:=Lib.hid hbk1
    have HE1:=Lib.hid (keepb HE0.out hb)
    clear hbk1
    have HB2:=Lib.hid (HB1.out.alloc (.cells #[.string ⟨#[]⟩,.int .i64 0,.int .i64 (no:Nat),.int .i64 (p:Nat),.bool false] 105))
    have HE2:=Lib.hid (keepb HE1.out (below_new w1 (.cells #[.string ⟨#[]⟩,.int .i64 0,.int .i64 (no:Nat),.int .i64 (p:Nat),.bool false] 105)))
    clear n0 n1 n2 n3 n4 f0 f1 f2 f3 f4 hb
    obtain ⟨n0,n1,n2,n3,n4⟩:=cells5 HB2.out
    have f0:=(HB2.out).frozen 0
    have f1:=(HB2.out).frozen 1
    have f2:=(HB2.out).frozen 2
    have f3:=(HB2.out).frozen 3
    have f4:=(HB2.out).frozen 4
    go_wp2_with fail
    exact piece_end rfl HB2.out rfl rfl ⟨rfl,set5_below HE2.out (Nat.le_refl _) _ _ _ _ _⟩
  · rw [hF,show frV .cut = .tuple #[.int .i64 0,.agg #[.string ⟨#[]⟩,.int .i64 0,.int .i64 0,.int .i64 0,.bool true]] from rfl] at HR
    clear hF hq2
    go_enter Tryz.func68,Tryz.ntmps68
    go_wp2_with fail
    refine (HR.out _).mono ?_
    rintro e w1 ⟨rfl,hb⟩
    have hbk1:=HB0.out.below hb HB0.out.lt
    obtain ⟨n0,n1,n2,n3,n4⟩:=cells5 hbk1
    have f0:=hbk1.frozen 0
    have f1:=hbk1.frozen 1
    have f2:=hbk1.frozen 2
    have f3:=hbk1.frozen 3
    have f4:=hbk1.frozen 4
    have HB1:=Lib.hid hbk1
    have HE1:=Lib.hid (keepb HE0.out hb)
    clear hbk1
    have HB2:=Lib.hid (HB1.out.alloc (.cells #[.string ⟨#[]⟩,.int .i64 0,.int .i64 0,.int .i64 0,.bool true] 105))
    have HE2:=Lib.hid (keepb HE1.out (below_new w1 (.cells #[.string ⟨#[]⟩,.int .i64 0,.int .i64 0,.int .i64 0,.bool true] 105)))
    clear n0 n1 n2 n3 n4 f0 f1 f2 f3 f4 hb
    obtain ⟨n0,n1,n2,n3,n4⟩:=cells5 HB2.out
    have f0:=(HB2.out).frozen 0
    have f1:=(HB2.out).frozen 1
    have f2:=(HB2.out).frozen 2
    have f3:=(HB2.out).frozen 3
    have f4:=(HB2.out).frozen 4
    go_wp2_with fail
    exact piece_end rfl HB2.out rfl rfl ⟨rfl,set5_below HE2.out (Nat.le_refl _) _ _ _ _ _⟩
end Go.Proofs.YtgmholdkdppbmaaGreatDoor.Lx

namespace Go.Proofs.YtgmholdkdppbmaaGreatDoor.Lx
open Go.RowKit
attribute [local go_sem ↓] Go.wp_at_zero Go.wp_at_succ
theorem ch_ok (s:List UInt8) (i:Nat) (h:(chAt s i).e = 0):chAt s i = ⟨(chAt s i).r,(chAt s i).n,0,0⟩:=by
  rcases chAt_spec s i with ⟨h1,_,_,h4,_⟩ | ⟨h1,_⟩ | ⟨h1,_⟩
  · generalize chAt s i = c at *
    obtain ⟨r,n,e,p⟩:=c
    simp only at h1 h4
    subst h1 h4
    rfl
  · omega
  · omega
theorem ch_bad (s:List UInt8) (i:Nat) (h:(chAt s i).e ≠ 0):chAt s i = ⟨0,0,(chAt s i).e,(chAt s i).p⟩:=by
  rcases chAt_spec s i with ⟨h1,_⟩ | ⟨_,h2,h3,_⟩ | ⟨_,h2,h3,_⟩
  · omega
  all_goals
    generalize chAt s i = c at *
    obtain ⟨r,n,e,p⟩:=c
    simp only at h2 h3
    subst h2 h3
    rfl
set_option maxRecDepth 100000 in
set_option maxHeartbeats 1000000 in
theorem rat9_any (s:List UInt8) (i:Nat) (w:World) (hi:i < s.length) (hs:s.length ≤ 1000000000000) :
    Calls Tryz.prog 57 #[.string ⟨s.toArray⟩,.int .i64 (i:Nat)] w fun e w'=>e = .returned (pcV (piece s i)) ∧ Below w.heap.size w w':=by
  have hb0:=Blk.new w 105 #[.string ⟨#[]⟩,.int .i64 0,.int .i64 0,.int .i64 0,.bool false]
  have HB0:=Lib.hid hb0
  have HE0:=Lib.hid (below_new w (.cells #[.string ⟨#[]⟩,.int .i64 0,.int .i64 0,.int .i64 0,.bool false] 105))
  obtain ⟨n0,n1,n2,n3,n4⟩:=cells5 hb0
  have f0:=hb0.frozen 0
  have f1:=hb0.frozen 1
  have f2:=hb0.frozen 2
  have f3:=hb0.frozen 3
  have f4:=hb0.frozen 4
  clear hb0
  obtain ⟨c,hc⟩:∃ c,s[i] = c:=⟨_,rfl⟩
  have hget:=get_c s i c hi hc
  have hb:bt s i = c.toNat:=by rw [← hc];exact bt_get s i hi
  have hiI:(i:Int) < (s.length:Int):=by omega
  have e92:=bit_byte c 92
  rw [show (((92:UInt8).toNat:Int)) = 92 from rfl] at e92
  obtain ⟨RES,hRES⟩:∃ RES,piece s i = RES:=⟨_,rfl⟩
  rw [hRES]
  by_cases h92:c = 92
  · rw [decide_eq_true h92] at e92
    have hp:escP (s.drop i) i = RES:=by rw [← hRES];unfold piece;rw [if_pos (by rw [hb,h92];rfl)]
    have HR:=Lib.hid (fun W=>resc_any s i W hi hs)
    rw [hp] at HR
    clear hp hRES h92 hb hc
    cases RES
    all_goals
    simp only [pcV] at HR ⊢
    go_enter Tryz.func57,Tryz.ntmps57
    go_wp2_with fail
    refine (HR.out _).mono ?_
    rintro e w1 ⟨rfl,hb⟩
    have hbk1:=HB0.out.below hb HB0.out.lt
    obtain ⟨n0,n1,n2,n3,n4⟩:=cells5 hbk1
    have f0:=hbk1.frozen 0
    have f1:=hbk1.frozen 1
    have f2:=hbk1.frozen 2
    have f3:=hbk1.frozen 3
    have f4:=hbk1.frozen 4
    have HB1:=Lib.hid hbk1
    have HE1:=Lib.hid (keepb HE0.out hb)
    clear hbk1 hb
    go_wp2_with fail
    exact piece_end rfl HB1.out rfl rfl ⟨rfl,set5_below HE1.out (Nat.le_refl _) _ _ _ _ _⟩
  rw [decide_eq_false h92] at e92
  have hn92:¬ bt s i = 92:=by
    rw [hb];intro h;exact h92 (UInt8.toNat_inj.1 h)
  by_cases h32:c.toNat < 32
  · have e32:decide ((c.toNat:Int) < 32) = true:=by rw [decide_eq_true_iff];omega
    have hp:RES = .bad 91 i:=by rw [← hRES];unfold piece;rw [if_neg hn92,if_pos (by rw [hb];exact h32)]
    subst hp
    have HRB:=Lib.hid (fun W=>rbad_any 91 (i:Int) W)
    clear hRES h92 hn92 hb hc h32
    go_enter Tryz.func57,Tryz.ntmps57
    go_wp2_with fail
    refine (HRB.out _).mono ?_
    rintro e w1 ⟨rfl,hb⟩
    have hbk1:=HB0.out.below hb HB0.out.lt
    obtain ⟨n0,n1,n2,n3,n4⟩:=cells5 hbk1
    have f0:=hbk1.frozen 0
    have f1:=hbk1.frozen 1
    have f2:=hbk1.frozen 2
    have f3:=hbk1.frozen 3
    have f4:=hbk1.frozen 4
    have HB1:=Lib.hid hbk1
    have HE1:=Lib.hid (keepb HE0.out hb)
    clear hbk1 hb
    go_wp2_with fail
    exact piece_end rfl HB1.out rfl rfl ⟨rfl,set5_below HE1.out (Nat.le_refl _) _ _ _ _ _⟩
  have e32:decide ((c.toNat:Int) < 32) = false:=by rw [decide_eq_false_iff_not];omega
  have hp:RES = if (chAt s i).e = 0 then .ok ((s.drop i).take (chAt s i).n) (chAt s i).n else if (chAt s i).e = 31 then .cut else .bad 90 (chAt s i).p:=by
    rw [← hRES];unfold piece;rw [if_neg hn92,if_neg (by rw [hb];exact h32)]
  have HA:=Lib.hid (fun W=>rat_any s i W hi (by omega))
  by_cases h0:(chAt s i).e = 0
  · rw [if_pos h0] at hp
    obtain ⟨r,hr⟩:∃ r,(chAt s i).r = r:=⟨_,rfl⟩
    obtain ⟨n,hn⟩:∃ n,(chAt s i).n = n:=⟨_,rfl⟩
    have hle:=chAt_len hi
    have hch:=ch_ok s i h0
    rw [hr,hn] at hch
    rw [at_ok hch] at HA
    rw [hn] at hp hle
    subst hp
    obtain ⟨q,hq⟩:∃ q,i + n = q:=⟨_,rfl⟩
    have hqI:(i:Int) + (n:Int) = (q:Int):=by omega
    have hql:(q:Int) ≤ (s.length:Int):=by omega
    have hext:(⟨s.toArray⟩:ByteArray).extract i q = ⟨((s.drop i).take n).toArray⟩:=by
      rw [ext_cut];unfold cutL
      rw [show q - i = n by omega]
    have hiq:(i:Int) ≤ (q:Int):=by omega
    have HQ:=Lib.hid hext
    clear hRES h92 hn92 hb hc h32 hr hn hch h0 hle hq hext
    go_enter Tryz.func57,Tryz.ntmps57
    go_wp2_with fail
    refine (HA.out _).mono ?_
    rintro e w1 ⟨rfl,rfl⟩
    have hext:=HQ.out
    go_wp2_with fail
    exact piece_at rfl (Blk.new w 105 _) rfl rfl ⟨rfl,(Below.refl _ _).alloc (Nat.le_refl _) _⟩
  · rw [if_neg h0] at hp
    have hch:=ch_bad s i h0
    obtain ⟨x,hx⟩:∃ x,(chAt s i).e = x:=⟨_,rfl⟩
    obtain ⟨p,hpp⟩:∃ p,(chAt s i).p = p:=⟨_,rfl⟩
    rw [hx,hpp] at hch
    rw [at_bad hch] at HA
    rw [hx,hpp] at hp
    rw [hx] at h0
    by_cases h31:x = 31
    · rw [if_pos h31] at hp
      subst hp h31
      clear hRES h92 hn92 hb hc h32 hx hpp hch h0
      go_enter Tryz.func57,Tryz.ntmps57
      go_wp2_with fail
      refine (HA.out _).mono ?_
      rintro e w1 ⟨rfl,rfl⟩
      go_wp2_with fail
      exact piece_at rfl (Blk.new w 105 _) rfl rfl ⟨rfl,(Below.refl _ _).alloc (Nat.le_refl _) _⟩
    · rw [if_neg h31] at hp
      subst hp
      have HRB:=Lib.hid (fun W=>rbad_any 90 (p:Int) W)
      have e31:((x:Int) == 31) = false:=by rw [beq_eq_false_iff_ne];omega
      have e0:((x:Int) != 0) = true:=by rw [bne_iff_ne];omega
      have e31n:(x == 31) = false:=by rw [beq_eq_false_iff_ne];omega
      have e0n:(x != 0) = true:=by rw [bne_iff_ne];omega
      clear hRES h92 hn92 hb hc h32 hx hpp hch h0 h31
      go_enter Tryz.func57,Tryz.ntmps57
      go_wp2_with fail
      refine (HA.out _).mono ?_
      rintro e w1 ⟨rfl,rfl⟩
      go_wp2_with fail
      refine (HRB.out _).mono ?_
      rintro e w1 ⟨rfl,hb⟩
      have hbk1:=HB0.out.below hb HB0.out.lt
      obtain ⟨n0,n1,n2,n3,n4⟩:=cells5 hbk1
      have f0:=hbk1.frozen 0
      have f1:=hbk1.frozen 1
      have f2:=hbk1.frozen 2
      have f3:=hbk1.frozen 3
      have f4:=hbk1.frozen 4
      have HB1:=Lib.hid hbk1
      have HE1:=Lib.hid (keepb HE0.out hb)
      clear hbk1 hb
      go_wp2_with fail
      exact piece_end rfl HB1.out rfl rfl ⟨rfl,set5_below HE1.out (Nat.le_refl _) _ _ _ _ _⟩
end Go.Proofs.YtgmholdkdppbmaaGreatDoor.Lx
