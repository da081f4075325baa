/-
  Texts of the proof of 'LexG': DecD, NatP, DecG, DecJ, DecN, LexC, LgC, LexD.
-/
import Derived.Test.YtgmholdkdppbmaaGreatDoorLexGAA
import Derived.Test.YtgmholdkdppbmaaGreatDoorLexGAB
import Derived.Test.YtgmholdkdppbmaaGreatDoorLexGAD
import Derived.Test.YtgmholdkdppbmaaGreatDoorLexGAE
import Derived.Test.YtgmholdkdppbmaaGreatDoorShelf
import Derived.Deep.DeepCutAuto
import Derived.Deep.CutBlock
set_option linter.unusedVariables false
set_option linter.unusedSimpArgs false
namespace Go.Proofs.YtgmholdkdppbmaaGreatDoor
open Go.RowKit
def decV (d:Dm):Value:=.agg #[.bool d.1,sv d.2.1,.int .i64 d.2.2]
theorem trimL_eq (l:List UInt8):Lib.trimLeftB l 48 = noughtsL l:=rfl
theorem trimR_eq (l:List UInt8):Lib.trimRightB l 48 = noughtsR l:=rfl
theorem noughtsL_le (l:List UInt8):(noughtsL l).length ≤ l.length:=(List.dropWhile_suffix _).length_le
theorem noughtsR_le (l:List UInt8):(noughtsR l).length ≤ l.length:=by
  unfold noughtsR
  rw [List.length_reverse]
  have:=(List.dropWhile_suffix (p:=(· == (48:UInt8))) (l:=l.reverse)).length_le
  rw [List.length_reverse] at this
  exact this
theorem sv_empty (l:List UInt8):((⟨l.toArray⟩:ByteArray) == ⟨#[]⟩) = decide (l = []):=by
  show (l.toArray == #[]) = _
  cases l <;> simp
theorem sv_len (l:List UInt8):(⟨l.toArray⟩:ByteArray).size = l.length:=by simp [ByteArray.size]
set_option maxRecDepth 100000 in
set_option maxHeartbeats 1000000 in
theorem stripped_any (g:Bool) (s:List UInt8) (x:Int) (w:World) (hs:s.length ≤ 2305843009213693952) (hx:-2305843009213693952 ≤ x ∧ x ≤ 2305843009213693952) :
    Calls Tryz.prog 110 #[decV (g,s,x)] w fun e w'=>e = .returned (decV (stripD (g,s,x))) ∧ Below w.heap.size w w':=by
  have h48:(48:UInt8).toNat < 128:=by decide
  have hL:=noughtsL_le s
  have hR:=noughtsR_le (noughtsL s)
  have HL:=Lib.hid (fun W=>Tryz.strings_TrimLeft_one ⟨s.toArray⟩ 48 h48 W)
  have hsz:(⟨(noughtsL s).toArray⟩:ByteArray).size ≤ 9223372036854775807:=by rw [sv_len];omega
  have HR:=Lib.hid (fun W=>Tryz.strings_TrimRight_one ⟨(noughtsL s).toArray⟩ 48 h48 W hsz)
  simp only [trimL_eq,trimR_eq,List.toList_toArray] at HL HR
  clear h48 hsz
  have HD:Go.RowKit.Hid (stripD (g,s,x) = if noughtsR (noughtsL s) = [] then (false,[],0) else (g,noughtsR (noughtsL s),x + (noughtsL s).length - (noughtsR (noughtsL s)).length)):=Lib.hid rfl
  generalize noughtsR (noughtsL s) = t at *
  generalize noughtsL s = l at *
  have hlI:((l.length:Nat):Int) ≤ 2305843009213693952:=by omega
  have htI:((t.length:Nat):Int) ≤ 2305843009213693952:=by omega
  have k1:IntKind.i64.wrap (x + (l.length:Int)) = x + l.length:=IntWalk.i64_in _ (by omega)
  have k2:IntKind.i64.wrap (x + (l.length:Int) - (t.length:Int)) = x + l.length - t.length:=IntWalk.i64_in _ (by omega)
  have HB:=Lib.hid (((Below.refl _ w).alloc (Nat.le_refl _) (.cells #[.bool g,.string ⟨s.toArray⟩,.int .i64 x] 156)).alloc (by simp) (.cells #[.bool false,.string ⟨#[]⟩,.int .i64 0] 156))
  have ke:t.isEmpty = decide (t = []):=by cases t <;> rfl
  unfold decV sv
  clear hs hx hL hR hlI htI
  cases hE:decide (t = []) with
  | true =>
    have HE:=Lib.hid (of_decide_eq_true hE)
    rw [hE] at ke
    clear hE
    go_enter Tryz.func110,Tryz.ntmps110
    go_wp2_with fail
    refine (HL.out _).mono ?_
    rintro e w' ⟨rfl,rfl⟩
    go_wp2_with fail
    refine (HR.out _).mono ?_
    rintro e w' ⟨rfl,rfl⟩
    go_wp2_with fail
    exact bodyPost_ret (v:=.agg #[.bool false,.string ⟨#[]⟩,.int .i64 0]) (by simp [results,Tryz.results110,go_sem]) rfl ⟨by rw [HD.out,if_pos HE.out],HB.out⟩
  | false =>
    have HE:=Lib.hid (of_decide_eq_false hE)
    rw [hE] at ke
    clear hE
    go_enter Tryz.func110,Tryz.ntmps110
    go_wp2_with fail
    refine (HL.out _).mono ?_
    rintro e w' ⟨rfl,rfl⟩
    go_wp2_with fail
    refine (HR.out _).mono ?_
    rintro e w' ⟨rfl,rfl⟩
    go_wp2_with fail
    exact bodyPost_ret (v:=.agg #[.bool g,.string ⟨t.toArray⟩,.int .i64 (x + (l.length:Int) - (t.length:Int))]) (by simp [results,Tryz.results110,go_sem]) rfl ⟨by rw [HD.out,if_neg HE.out],((Below.refl _ w).alloc (Nat.le_refl _) _).alloc (by simp) _⟩
end Go.Proofs.YtgmholdkdppbmaaGreatDoor
namespace Go.Proofs.YtgmholdkdppbmaaGreatDoor
open Go.RowKit
theorem capE_step (l:List UInt8) (i:Nat) (h:i < l.length):capE (l.take (i + 1)) = if capE (l.take i) < farE then 10 * capE (l.take i) + (bt l i - 48) else capE (l.take i):=by
  unfold capE bt
  rw [List.take_succ_eq_append_getElem h,List.foldl_append,List.getD_eq_getElem?_getD,List.getElem?_eq_getElem h]
  rfl
theorem capE_stop (l:List UInt8) (i:Nat) (h:farE ≤ capE (l.take i)):capE l = capE (l.take i):=by
  have key:∀ (m:List UInt8) (e:Nat),farE ≤ e → m.foldl (fun e c=>if e < farE then 10 * e + (c.toNat - 48) else e) e = e:=by
    intro m
    induction m with
    | nil=>intro e _;rfl
    | cons c m ih=>intro e he;rw [List.foldl_cons,if_neg (by omega)];exact ih e he
  have:capE l = (l.take i ++ l.drop i).foldl (fun e c=>if e < farE then 10 * e + (c.toNat - 48) else e) 0:=by rw [List.take_append_drop];rfl
  rw [this,List.foldl_append]
  exact key _ _ h
theorem capE_take_lt (l:List UInt8) (i:Nat) (hl:∀ c ∈ l,isD c = true):capE (l.take i) < 10 * farE:=capE_lt _ fun c hc=>hl c (List.mem_of_mem_take hc)
theorem bt_isD {l:List UInt8} {i:Nat} (h:i < l.length) (hl:∀ c ∈ l,isD c = true):48 ≤ bt l i ∧ bt l i ≤ 57:=by
  have:=hl l[i] (List.getElem_mem h)
  unfold isD at this
  unfold bt
  rw [List.getD_eq_getElem?_getD,List.getElem?_eq_getElem h]
  simpa using this
theorem sv_cat (a b:List UInt8):((⟨a.toArray⟩:ByteArray) ++ ⟨b.toArray⟩) = ⟨(a ++ b).toArray⟩:=by
  apply ByteArray.ext
  simp
set_option maxRecDepth 100000 in
set_option maxHeartbeats 1000000 in
theorem bare_any (g u:Bool) (a b e:List UInt8) (w:World) (ha:a.length + b.length ≤ 140737488353000) (he:e.length ≤ 140737488353000) (hd:∀ c ∈ e,isD c = true) :
    Calls Tryz.prog 97 #[.agg #[.bool g,sv a,sv b,.bool u,sv e]] w fun x w'=>x = .returned (decV (stripD (g,a ++ b,(if u then -(capE e:Int) else (capE e:Int)) - b.length))) ∧ Below w.heap.size w w':=by
  have HD:=Lib.hid hd
  have HA:=Lib.hid ha
  have heI:((e.length:Nat):Int) ≤ 140737488353000:=by omega
  clear hd ha he
  have HN:=Lib.hid (show Blk ((w.alloc (.cells #[.bool g,.string ⟨a.toArray⟩,.string ⟨b.toArray⟩,.bool u,.string ⟨e.toArray⟩] 189)).alloc (.cells #[.bool false,.string ⟨#[]⟩,.int .i64 0] 156)) (w.heap.size + 1) 156 #[.bool false,.string ⟨#[]⟩,.int .i64 0] by have:=Blk.new (w.alloc (.cells #[.bool g,.string ⟨a.toArray⟩,.string ⟨b.toArray⟩,.bool u,.string ⟨e.toArray⟩] 189)) 156 #[.bool false,.string ⟨#[]⟩,.int .i64 0];simpa using this)
  have HN0:=Lib.hid (((Below.refl _ w).alloc (Nat.le_refl _) (.cells #[.bool g,.string ⟨a.toArray⟩,.string ⟨b.toArray⟩,.bool u,.string ⟨e.toArray⟩] 189)).alloc (by simp) (.cells #[.bool false,.string ⟨#[]⟩,.int .i64 0] 156))
  unfold sv
  go_enter Tryz.func97,Tryz.ntmps97
  go_wp2_with fail
  go_loop [3,4] (fun x v=>∃ k:Nat,v = .int .i64 (k:Int) ∧ k ≤ e.length ∧ x = .int .i64 ((capE (e.take k):Nat):Int)) (fun x v=>e.length - (intOf v).toNat)
  case atStart=>exact ⟨0,by go_num,Nat.zero_le _,rfl⟩
  case round =>
    obtain ⟨k,rfl,hk,rfl⟩:=hrel
    have hkl:((k:Nat):Int) ≤ ((e.length:Nat):Int):=by omega
    have hc:(capE (e.take k):Int) < 10 * 35184372088832:=by have:=capE_take_lt e k HD.out;unfold farE at this;omega
    rcases Nat.lt_or_ge k e.length with hlt | hge
    · have u1:decide (((k:Nat):Int) < ((e.length:Nat):Int)) = true:=by simp;omega
      have u1':decide (k < e.length) = true:=by simpa using hlt
      have hki:((k:Nat):Int) < ((e.length:Nat):Int):=by omega
      rcases Nat.lt_or_ge (capE (e.take k)) farE with hf | hf
      · have hst:=capE_step e k hlt
        rw [if_pos hf] at hst
        have hbb:=bt_isD hlt HD.out
        have hbk:=bget e k hlt
        have HST:=Lib.hid hst
        have HK:=Lib.hid hlt
        clear hst
        generalize capE (e.take k) = c at *
        generalize bt e k = y at *
        have u2:decide (((c:Nat):Int) < 35184372088832) = true:=by unfold farE at hf;simp;omega
        have k1:IntKind.i64.wrap (10 * (c:Int)) = 10 * (c:Int):=IntWalk.i64_in _ (by unfold farE at hf;omega)
        have k2:IntKind.u8.wrap ((y:Int) - 48) = ((y - 48:Nat):Int):=by
          have:(y:Int) - 48 = ((y - 48:Nat):Int):=by omega
          rw [this];exact IntWalk.u8_in _ (by omega)
        have k4:IntKind.i64.wrap ((y - 48:Nat):Int) = ((y - 48:Nat):Int):=IntWalk.i64_in _ (by omega)
        have k3:IntKind.i64.wrap (10 * (c:Int) + ((y - 48:Nat):Int)) = ((10 * c + (y - 48):Nat):Int):=by rw [IntWalk.i64_in _ (by unfold farE at hf;omega)];omega
        generalize y - 48 = z at *
        clear hf hbb hc
        go_wp2_with fail
        refine ⟨⟨k + 1,by go_num,HK.out,?_⟩,?_⟩
        · rw [HST.out];congr 1
        · have:=HK.out;simp [intOf];omega
      · have u2:decide (((capE (e.take k):Nat):Int) < 35184372088832) = false:=by unfold farE at hf;simp;omega
        have HC:=Lib.hid (capE_stop e k hf)
        clear hf
        generalize capE (e.take k) = c at *
        have k5:IntKind.i64.wrap (-(c:Int)) = -(c:Int):=IntWalk.i64_in _ (by omega)
        have k6:IntKind.i64.wrap (-(c:Int) - (b.length:Int)) = -(c:Int) - (b.length:Int):=IntWalk.i64_in _ (by have:=HA.out;omega)
        have k7:IntKind.i64.wrap ((c:Int) - (b.length:Int)) = (c:Int) - (b.length:Int):=IntWalk.i64_in _ (by have:=HA.out;omega)
        have HC0:=Lib.hid hc
        clear hc hkl hk hlt hki
        have hab:=HA.out
        have habI:((a.length:Nat):Int) + ((b.length:Nat):Int) ≤ 140737488353000:=by omega
        cases u with
        | true =>
          go_wp2_with fail
          rw [sv_cat]
          refine (stripped_any g (a ++ b) (-(c:Int) - (b.length:Int)) _ (by rw [List.length_append];omega) (by have:=HC0.out;omega)).mono ?_
          rintro x w' ⟨rfl,HB⟩
          have HS:=Lib.hid (show stripD (g,a ++ b,(if true then -(capE e:Int) else (capE e:Int)) - b.length) = stripD (g,a ++ b,-(c:Int) - (b.length:Int)) by rw [HC.out];rfl)
          have b2:=(HN.out).below HB (HN.out).lt
          have HBB:=Lib.hid (keepb HN0.out HB)
          generalize stripD (g,a ++ b,-(c:Int) - (b.length:Int)) = d at *
          obtain ⟨g',t',x'⟩:=d
          have d0:=b2.cell 0
          have d1:=b2.cell 1
          have d2:=b2.cell 2
          have f0:=b2.frozen 0
          have f1:=b2.frozen 1
          have f2:=b2.frozen 2
          have HE:=Lib.hid (((b2.set1 0 (.bool g')).set1 1 (sv t')).set1 2 (.int .i64 x'))
          clear b2 HB hab habI k5 k6 k7
          unfold decV sv
          go_simp
          repeat go_step
          have e0:=HE.out.cell 0
          have e1:=HE.out.cell 1
          have e2:=HE.out.cell 2
          exact bodyPost_ret (v:=.agg #[.bool g',sv t',.int .i64 x']) (by simp [results,Tryz.results97,go_sem,e0,e1,e2]) rfl ⟨by have:=HS.out;simp only [if_true,if_false,Bool.false_eq_true] at this ⊢;rw [this];rfl,(((HBB.out.setCell (p:=⟨w.heap.size + 1,0,none⟩) (by simp) _).setCell (p:=⟨w.heap.size + 1,1,none⟩) (by simp) _).setCell (p:=⟨w.heap.size + 1,2,none⟩) (by simp) _)⟩
        | false =>
          go_wp2_with fail
          rw [sv_cat]
          refine (stripped_any g (a ++ b) ((c:Int) - (b.length:Int)) _ (by rw [List.length_append];omega) (by have:=HC0.out;omega)).mono ?_
          rintro x w' ⟨rfl,HB⟩
          have HS:=Lib.hid (show stripD (g,a ++ b,(if false then -(capE e:Int) else (capE e:Int)) - b.length) = stripD (g,a ++ b,(c:Int) - (b.length:Int)) by rw [HC.out];rfl)
          have b2:=(HN.out).below HB (HN.out).lt
          have HBB:=Lib.hid (keepb HN0.out HB)
          generalize stripD (g,a ++ b,(c:Int) - (b.length:Int)) = d at *
          generalize (c:Int) - (b.length:Int) = y at *
          obtain ⟨g',t',x'⟩:=d
          have d0:=b2.cell 0
          have d1:=b2.cell 1
          have d2:=b2.cell 2
          have f0:=b2.frozen 0
          have f1:=b2.frozen 1
          have f2:=b2.frozen 2
          have HE:=Lib.hid (((b2.set1 0 (.bool g')).set1 1 (sv t')).set1 2 (.int .i64 x'))
          clear b2 HB hab habI k5 k6 k7
          unfold decV sv
          go_simp
          repeat go_step
          have e0:=HE.out.cell 0
          have e1:=HE.out.cell 1
          have e2:=HE.out.cell 2
          exact bodyPost_ret (v:=.agg #[.bool g',sv t',.int .i64 x']) (by simp [results,Tryz.results97,go_sem,e0,e1,e2]) rfl ⟨by have:=HS.out;simp only [if_true,if_false,Bool.false_eq_true] at this ⊢;rw [this];rfl,(((HBB.out.setCell (p:=⟨w.heap.size + 1,0,none⟩) (by simp) _).setCell (p:=⟨w.heap.size + 1,1,none⟩) (by simp) _).setCell (p:=⟨w.heap.size + 1,2,none⟩) (by simp) _)⟩
    · have u1:decide (((k:Nat):Int) < ((e.length:Nat):Int)) = false:=by simp;omega
      have u1':decide (k < e.length) = false:=by simpa using hge
      have HC:=Lib.hid (show capE e = capE (e.take k) by rw [List.take_of_length_le hge])
      clear hge
      generalize capE (e.take k) = c at *
      have k5:IntKind.i64.wrap (-(c:Int)) = -(c:Int):=IntWalk.i64_in _ (by omega)
      have k6:IntKind.i64.wrap (-(c:Int) - (b.length:Int)) = -(c:Int) - (b.length:Int):=IntWalk.i64_in _ (by have:=HA.out;omega)
      have k7:IntKind.i64.wrap ((c:Int) - (b.length:Int)) = (c:Int) - (b.length:Int):=IntWalk.i64_in _ (by have:=HA.out;omega)
      have HC0:=Lib.hid hc
      clear hc hkl hk
      have hab:=HA.out
      have habI:((a.length:Nat):Int) + ((b.length:Nat):Int) ≤ 140737488353000:=by omega
      cases u with
      | true =>
        go_wp2_with fail
        rw [sv_cat]
        refine (stripped_any g (a ++ b) (-(c:Int) - (b.length:Int)) _ (by rw [List.length_append];omega) (by have:=HC0.out;omega)).mono ?_
        rintro x w' ⟨rfl,HB⟩
        have HS:=Lib.hid (show stripD (g,a ++ b,(if true then -(capE e:Int) else (capE e:Int)) - b.length) = stripD (g,a ++ b,-(c:Int) - (b.length:Int)) by rw [HC.out];rfl)
        have b2:=(HN.out).below HB (HN.out).lt
        have HBB:=Lib.hid (keepb HN0.out HB)
        generalize stripD (g,a ++ b,-(c:Int) - (b.length:Int)) = d at *
        obtain ⟨g',t',x'⟩:=d
        have d0:=b2.cell 0
        have d1:=b2.cell 1
        have d2:=b2.cell 2
        have f0:=b2.frozen 0
        have f1:=b2.frozen 1
        have f2:=b2.frozen 2
        have HE:=Lib.hid (((b2.set1 0 (.bool g')).set1 1 (sv t')).set1 2 (.int .i64 x'))
        clear b2 HB hab habI k5 k6 k7
        unfold decV sv
        go_simp
        repeat go_step
        have e0:=HE.out.cell 0
        have e1:=HE.out.cell 1
        have e2:=HE.out.cell 2
        exact bodyPost_ret (v:=.agg #[.bool g',sv t',.int .i64 x']) (by simp [results,Tryz.results97,go_sem,e0,e1,e2]) rfl ⟨by have:=HS.out;simp only [if_true,if_false,Bool.false_eq_true] at this ⊢;rw [this];rfl,(((HBB.out.setCell (p:=⟨w.heap.size + 1,0,none⟩) (by simp) _).setCell (p:=⟨w.heap.size + 1,1,none⟩) (by simp) _).setCell (p:=⟨w.heap.size + 1,2,none⟩) (by simp) _)⟩
      | false =>
        go_wp2_with fail
        rw [sv_cat]
        refine (stripped_any g (a ++ b) ((c:Int) - (b.length:Int)) _ (by rw [List.length_append];omega) (by have:=HC0.out;omega)).mono ?_
        rintro x w' ⟨rfl,HB⟩
        have HS:=Lib.hid (show stripD (g,a ++ b,(if false then -(capE e:Int) else (capE e:Int)) - b.length) = stripD (g,a ++ b,(c:Int) - (b.length:Int)) by rw [HC.out];rfl)
        have b2:=(HN.out).below HB (HN.out).lt
        have HBB:=Lib.hid (keepb HN0.out HB)
        generalize stripD (g,a ++ b,(c:Int) - (b.length:Int)) = d at *
        generalize (c:Int) - (b.length:Int) = y at *
        obtain ⟨g',t',x'⟩:=d
        have d0:=b2.cell 0
        have d1:=b2.cell 1
        have d2:=b2.cell 2
        have f0:=b2.frozen 0
        have f1:=b2.frozen 1
        have f2:=b2.frozen 2
        have HE:=Lib.hid (((b2.set1 0 (.bool g')).set1 1 (sv t')).set1 2 (.int .i64 x'))
        clear b2 HB hab habI k5 k6 k7
        unfold decV sv
        go_simp
        repeat go_step
        have e0:=HE.out.cell 0
        have e1:=HE.out.cell 1
        have e2:=HE.out.cell 2
        exact bodyPost_ret (v:=.agg #[.bool g',sv t',.int .i64 x']) (by simp [results,Tryz.results97,go_sem,e0,e1,e2]) rfl ⟨by have:=HS.out;simp only [if_true,if_false,Bool.false_eq_true] at this ⊢;rw [this];rfl,(((HBB.out.setCell (p:=⟨w.heap.size + 1,0,none⟩) (by simp) _).setCell (p:=⟨w.heap.size + 1,1,none⟩) (by simp) _).setCell (p:=⟨w.heap.size + 1,2,none⟩) (by simp) _)⟩
end Go.Proofs.YtgmholdkdppbmaaGreatDoor
namespace Go.Proofs.YtgmholdkdppbmaaGreatDoor
def shortD (d:Dm):Dm:=if 800 < d.2.1.length then (d.1,d.2.1.take 800 ++ [49],d.2.2 + d.2.1.length - 801) else d
def numD (d:Dm):Nat:=dval d.2.1 * 10 ^ d.2.2.toNat
def denD (d:Dm):Nat:=10 ^ (-d.2.2).toNat
def topD (d:Dm):Int:=d.2.1.length + d.2.2
def floorP (d:Dm):Nat × Int × Bool :=
  if d.2.1 = [] then (0,0,true) else if 310 < topD d then (most,1,false) else if topD d < -330 then (0,-1,false) else cutP (numD (shortD d)) (denD (shortD d))
def upP (g:Bool) (c:Nat × Int × Bool) (way:Int):Bool :=
  if way = 4 then g && !c.2.2 else if way = 5 then !g && !c.2.2 else if way = 1 then !(c.2.1 == 0 && c.1 % 2 == 0) && (decide (0 ≤ c.2.1) && !c.2.2) else if way = 2 then decide (0 ≤ c.2.1) && !c.2.2 else false
def endP (g:Bool) (b:Nat):Option Nat:=if most < b then none else some (if g && decide (0 < b) then b + 9223372036854775808 else b)
def roundC (g:Bool) (c:Nat × Int × Bool) (way:Int):Option Nat:=endP g (if upP g c way then c.1 + 1 else c.1)
def roundP (d:Dm) (way:Int):Option Nat:=roundC d.1 (floorP d) way
def Bare (d:Dm):Prop:=(∀ c ∈ d.2.1,isD c = true) ∧ (d.2.1 = [] → d = (false,[],0)) ∧ d.2.1.head? ≠ some 48 ∧ d.2.1.getLast? ≠ some 48
theorem noughtsL_mem {l:List UInt8} {c:UInt8} (h:c ∈ noughtsL l):c ∈ l:=(List.dropWhile_suffix _).subset h
theorem noughtsR_mem {l:List UInt8} {c:UInt8} (h:c ∈ noughtsR l):c ∈ l:=by
  unfold noughtsR at h
  rw [List.mem_reverse] at h
  exact List.mem_reverse.1 ((List.dropWhile_suffix _).subset h)
theorem dropW_head (l:List UInt8):(l.dropWhile (· == 48)).head? ≠ some 48:=by
  induction l with
  | nil=>simp
  | cons a l ih =>
    rw [List.dropWhile_cons]
    split
    · exact ih
    · rename_i h
      simpa using h
theorem noughtsL_head (l:List UInt8):(noughtsL l).head? ≠ some 48:=dropW_head l
theorem noughtsR_last (l:List UInt8):(noughtsR l).getLast? ≠ some 48:=by
  unfold noughtsR
  rw [List.getLast?_reverse]
  exact dropW_head _
theorem noughtsR_head {l:List UInt8} (h:noughtsR l ≠ []):(noughtsR l).head? = l.head?:=by
  unfold noughtsR at *
  have hs:(l.reverse.dropWhile (· == (48:UInt8))).reverse <+: l:=by
    have:=List.dropWhile_suffix (l:=l.reverse) (p:=(· == (48:UInt8)))
    rw [← List.reverse_prefix,List.reverse_reverse] at this
    exact this
  obtain ⟨t,ht⟩:=hs
  conv=>rhs;rw [← ht]
  rw [List.head?_append]
  cases hh:(l.reverse.dropWhile (· == (48:UInt8))).reverse with
  | nil=>exact absurd hh h
  | cons a m=>rfl
theorem stripD_bare (d:Dm) (h:∀ c ∈ d.2.1,isD c = true):Bare (stripD d):=by
  unfold stripD
  simp only
  split
  · exact ⟨fun c hc=>by simp at hc,fun _=>rfl,by simp,by simp⟩
  · rename_i hne
    refine ⟨fun c hc=>h c (noughtsL_mem (noughtsR_mem hc)),fun h0=>absurd h0 hne,?_,noughtsR_last _⟩
    simp only
    rw [noughtsR_head hne]
    exact noughtsL_head _
theorem cutL_mem {s:List UInt8} {i k:Nat} {c:UInt8} (h:c ∈ cutL s i k):∃ j,i ≤ j ∧ j < k ∧ s[j]? = some c:=by
  unfold cutL at h
  obtain ⟨n,hn⟩:=List.mem_iff_getElem?.1 h
  rw [List.getElem?_take] at hn
  split at hn
  · rw [List.getElem?_drop] at hn
    exact ⟨i + n,by omega,by omega,hn⟩
  · cases hn
theorem ov_digits {s:List UInt8} {i:Nat}:∀ c ∈ cutL s i (ov s i),isD c = true:=by
  intro c hc
  obtain ⟨j,h1,h2,h3⟩:=cutL_mem hc
  have:=dAt_mid h1 h2
  unfold dAt at this
  rw [h3] at this
  exact this
theorem wholeP_digits (s:List UInt8):∀ c ∈ wholeP s,isD c = true:=by
  intro c hc
  unfold wholeP p1 at hc
  split at hc
  · rename_i h
    obtain ⟨j,h1,h2,h3⟩:=cutL_mem hc
    obtain rfl:j = p0 s:=by omega
    rw [h] at h3
    injection h3 with h3
    subst h3
    decide
  · exact ov_digits c hc
theorem behindP_digits (s:List UInt8):∀ c ∈ behindP s,isD c = true:=by
  intro c hc
  unfold behindP at hc
  split at hc
  · rename_i h
    unfold p2 at hc
    rw [if_pos h] at hc
    exact ov_digits c hc
  · cases hc
theorem expP_digits (s:List UInt8):∀ c ∈ expP s,isD c = true:=by
  intro c hc
  unfold expP at hc
  split at hc
  · rename_i h
    unfold p4 at hc
    rw [if_pos h] at hc
    exact ov_digits c hc
  · cases hc
theorem cutL_len (s:List UInt8) (i k:Nat):(cutL s i k).length ≤ k - i ∧ (cutL s i k).length ≤ s.length - i:=by
  unfold cutL
  rw [List.length_take,List.length_drop]
  omega
theorem parts_len (s:List UInt8):(wholeP s).length + (behindP s).length ≤ s.length ∧ (expP s).length ≤ s.length:=by
  have h1:(wholeP s).length ≤ p1 s:=by have:=cutL_len s (p0 s) (p1 s);unfold wholeP;omega
  have h2:(behindP s).length ≤ s.length - p1 s:=by
    unfold behindP
    split
    · have:=cutL_len s (p1 s + 1) (p2 s);omega
    · simp
  have h3:=p1_le (s:=s)
  have h4:(expP s).length ≤ s.length:=by
    unfold expP
    split
    · have:=cutL_len s (p3 s) (p4 s);omega
    · simp
  exact ⟨by omega,h4⟩
theorem bareP_bare (s:List UInt8):Bare (bareP s):=stripD_bare _ fun c hc=>by
  simp only [List.mem_append] at hc
  rcases hc with hc | hc
  · exact wholeP_digits s c hc
  · exact behindP_digits s c hc
theorem stripD_len (d:Dm) (B:Int) (hB:0 ≤ B) (h1:-B ≤ d.2.2) (h2:d.2.2 ≤ B):(stripD d).2.1.length ≤ d.2.1.length ∧ -B ≤ (stripD d).2.2 ∧ (stripD d).2.2 ≤ B + d.2.1.length:=by
  have h1:(noughtsL d.2.1).length ≤ d.2.1.length:=(List.dropWhile_suffix _).length_le
  have h2:(noughtsR (noughtsL d.2.1)).length ≤ (noughtsL d.2.1).length:=by
    unfold noughtsR
    rw [List.length_reverse]
    have:=(List.dropWhile_suffix (p:=(· == (48:UInt8))) (l:=(noughtsL d.2.1).reverse)).length_le
    rw [List.length_reverse] at this
    exact this
  unfold stripD
  simp only
  split
  · simp only [List.length_nil];omega
  · simp only;omega
theorem bareP_len (s:List UInt8):(bareP s).2.1.length ≤ s.length ∧ -(400000000000000 + s.length:Int) ≤ (bareP s).2.2 ∧ (bareP s).2.2 ≤ 400000000000000 + 2 * s.length:=by
  have h1:=parts_len s
  have h2:=capE_lt (expP s) (expP_digits s)
  unfold farE at h2
  have h3:=stripD_len (negP s,wholeP s ++ behindP s,(if underP s then -(capE (expP s):Int) else (capE (expP s):Int)) - (behindP s).length) (400000000000000 + (behindP s).length) (by omega)
    (by simp only;split <;> omega) (by simp only;split <;> omega)
  unfold bareP
  simp only [List.length_append] at h3
  omega
end Go.Proofs.YtgmholdkdppbmaaGreatDoor
namespace Go.Proofs.YtgmholdkdppbmaaGreatDoor
theorem pow10 (k:Nat):0 < 10 ^ k:=Nat.pow_pos (by omega)
theorem pow10_mono {a b:Nat} (h:a ≤ b):10 ^ a ≤ 10 ^ b:=Nat.pow_le_pow_right (by omega) h
theorem denD_pos (d:Dm):0 < denD d:=pow10 _
def Lead (l:List UInt8):Prop:=(∀ c ∈ l,isD c = true) ∧ l ≠ [] ∧ l.getD 0 0 ≠ 48
theorem Bare.lead {d:Dm} (h:Bare d) (h0:d.2.1 ≠ []):Lead d.2.1:=by
  refine ⟨h.1,h0,?_⟩
  have h1:=h.2.2.1
  cases hl:d.2.1 with
  | nil=>exact absurd hl h0
  | cons a l=>rw [hl] at h1;simpa using h1
theorem Lead.ge {l:List UInt8} (h:Lead l):10 ^ (l.length - 1) ≤ dval l:=dval_ge l h.1 h.2.1 h.2.2
theorem Lead.lt {l:List UInt8} (h:Lead l):dval l < 10 ^ l.length:=dval_lt l h.1
theorem Lead.len {l:List UInt8} (h:Lead l):0 < l.length:=List.length_pos_iff.2 h.2.1
theorem shortD_lead {d:Dm} (h:Lead d.2.1):Lead (shortD d).2.1:=by
  unfold shortD
  split
  · rename_i hl
    refine ⟨fun c hc=>?_,by simp,?_⟩
    · simp only [List.mem_append,List.mem_singleton] at hc
      rcases hc with hc | hc
      · exact h.1 c (List.mem_of_mem_take hc)
      · rw [hc];decide
    · have h1:=h.2.2
      obtain ⟨a,l,hal⟩:∃ a l,d.2.1 = a :: l:=by
        cases hh:d.2.1 with
        | nil=>exact absurd hh h.2.1
        | cons a l=>exact ⟨a,l,rfl⟩
      rw [hal] at h1 ⊢
      simpa using h1
  · exact h
theorem shortD_top (d:Dm):topD (shortD d) = topD d:=by
  unfold shortD topD
  split
  · simp only [List.length_append,List.length_take,List.length_singleton];omega
  · rfl
theorem shortD_neg (d:Dm):(shortD d).1 = d.1:=by unfold shortD;split <;> rfl
theorem shortD_len (d:Dm):(shortD d).2.1.length ≤ 801:=by
  unfold shortD
  split
  · simp only [List.length_append,List.length_take,List.length_singleton];omega
  · omega
theorem mag_ge {d:Dm} (h:Lead d.2.1) (k:Nat) (hk:(k:Int) + 1 ≤ topD d):10 ^ k * denD d ≤ numD d:=by
  have h1:=h.ge
  have h2:=h.len
  unfold numD denD
  unfold topD at hk
  refine Nat.le_trans ?_ (Nat.mul_le_mul_right _ h1)
  rw [← Nat.pow_add,← Nat.pow_add]
  exact pow10_mono (by omega)
theorem mag_lt {d:Dm} (h:Lead d.2.1) (k:Nat) (hk:topD d ≤ (k:Int)):numD d < 10 ^ k * denD d:=by
  have h1:=h.lt
  unfold numD denD
  unfold topD at hk
  refine Nat.lt_of_lt_of_le (Nat.mul_lt_mul_of_pos_right h1 (pow10 _)) ?_
  rw [← Nat.pow_add,← Nat.pow_add]
  exact pow10_mono (by omega)
theorem mag_small {d:Dm} (h:Lead d.2.1) (k:Nat) (hk:topD d ≤ -(k:Int)):numD d * 10 ^ k < denD d:=by
  have h1:=h.lt
  unfold numD denD
  unfold topD at hk
  rw [Nat.mul_assoc]
  refine Nat.lt_of_lt_of_le (Nat.mul_lt_mul_of_pos_right h1 (Nat.mul_pos (pow10 _) (pow10 _))) ?_
  rw [← Nat.pow_add,← Nat.pow_add]
  exact pow10_mono (by omega)
theorem mag_pos {d:Dm} (h:Lead d.2.1):0 < numD d:=by
  unfold numD
  exact Nat.mul_pos (Nat.lt_of_lt_of_le (pow10 _) h.ge) (pow10 _)
theorem Fl_over (k n:Nat) (hk:k = 310) (hn:n = 1074):Fl (most + 1) ≤ 10 ^ k * 2 ^ n:=by subst hk hn;decide +kernel
theorem tiny (k n:Nat) (hk:k = 330) (hn:n = 1074):2 * 2 ^ n ≤ 10 ^ k:=by subst hk hn;decide +kernel
theorem great_aux {A B C X F:Nat} (hF:F ≤ C * X) (h:C * B ≤ A):F * B ≤ A * X :=
  Nat.le_trans (Nat.mul_le_mul_right B hF) (by rw [Nat.mul_right_comm];exact Nat.mul_le_mul_right X h)
theorem tiny_aux {A B C X:Nat} (hX:2 * X ≤ C) (h:A * C < B):2 * (A * X) < B:=by
  refine Nat.lt_of_le_of_lt ?_ h
  rw [← Nat.mul_assoc,Nat.mul_comm 2 A,Nat.mul_assoc]
  exact Nat.mul_le_mul_left _ hX
theorem cutP_great {A B k:Nat} (hk:k = 310) (hB:0 < B) (h:10 ^ k * B ≤ A):cutP A B = (most,1,false):=by
  obtain ⟨n,hn⟩:∃ n,n = 1074:=⟨_,rfl⟩
  have h1:most < flT (A * 2 ^ n / B):=flT_iff.2 ((Nat.le_div_iff_mul_le hB).2 (great_aux (Fl_over k n hk hn) h))
  subst hn
  exact cutP_over hB h1
theorem cutP_tiny' {A B X n:Nat} (hn:n = 1074) (hX:X = 2 ^ n) (hA:0 < A) (h1:2 * (A * X) < B):cutP A B = (0,-1,false):=by
  have hXp:0 < X:=by rw [hX];exact Nat.pow_pos (by omega)
  have h2:A * X / B = 0:=Nat.div_eq_of_lt (by omega)
  have hN:0 < A * X:=Nat.mul_pos hA hXp
  have e0:Fl 0 = 0:=rfl
  have e1:Fl (0 + 1) = 1:=rfl
  have hb:min (flT (A * X / B)) most = 0:=by rw [h2];rfl
  have hc:(min (flT (A * X / B)) most,cmpI (2 * (A * X)) ((Fl (min (flT (A * X / B)) most) + Fl (min (flT (A * X / B)) most + 1)) * B),decide (Fl (min (flT (A * X / B)) most) * B = A * X)) = ((0:Nat),(-1:Int),false):=by
    rw [hb,e0,e1]
    rw [cmpI_lt (by omega),decide_eq_false (by omega)]
  subst hn
  rw [hX] at hc
  exact hc
theorem cutP_tiny {A B k:Nat} (hk:k = 330) (hA:0 < A) (h:A * 10 ^ k < B):cutP A B = (0,-1,false):=by
  obtain ⟨n,hn⟩:∃ n,n = 1074:=⟨_,rfl⟩
  exact cutP_tiny' hn rfl hA (tiny_aux (tiny k n hk hn) h)
theorem floorP_cut {d:Dm} (h:Lead d.2.1):floorP d = cutP (numD (shortD d)) (denD (shortD d)):=by
  have hs:=shortD_lead h
  have ht:=shortD_top d
  unfold floorP
  rw [if_neg h.2.1]
  split
  · rename_i h1
    obtain ⟨k,hk⟩:∃ k,k = 310:=⟨_,rfl⟩
    exact (cutP_great hk (denD_pos _) (mag_ge hs k (by omega))).symm
  · split
    · rename_i h2
      obtain ⟨k,hk⟩:∃ k,k = 330:=⟨_,rfl⟩
      exact (cutP_tiny hk (mag_pos hs) (mag_small hs k (by omega))).symm
    · rfl
end Go.Proofs.YtgmholdkdppbmaaGreatDoor
namespace Go.Proofs.YtgmholdkdppbmaaGreatDoor
end Go.Proofs.YtgmholdkdppbmaaGreatDoor
namespace Go.Proofs.YtgmholdkdppbmaaGreatDoor
open Go.RowKit
theorem Blk.three {w:World} {b:Nat} {t:TypeId} {x y z:Value} (h:Blk w b t #[x,y,z]) :
    w.cell? ⟨b,0,none⟩ = some x ∧ w.cell? ⟨b,1,none⟩ = some y ∧ w.cell? ⟨b,2,none⟩ = some z ∧ w.frozen? ⟨b,0,none⟩ = false ∧ w.frozen? ⟨b,1,none⟩ = false ∧ w.frozen? ⟨b,2,none⟩ = false :=
  ⟨h.cell 0,h.cell 1,h.cell 2,h.frozen 0,h.frozen 1,h.frozen 2⟩
theorem Blk.put3 {w:World} {b:Nat} {t:TypeId} {x y z:Value} (h:Blk w b t #[x,y,z]) (u v r:Value) :
    (((w.setCell ⟨b,0,none⟩ u).setCell ⟨b,1,none⟩ v).setCell ⟨b,2,none⟩ r).cell? ⟨b,0,none⟩ = some u ∧
    (((w.setCell ⟨b,0,none⟩ u).setCell ⟨b,1,none⟩ v).setCell ⟨b,2,none⟩ r).cell? ⟨b,1,none⟩ = some v ∧
    (((w.setCell ⟨b,0,none⟩ u).setCell ⟨b,1,none⟩ v).setCell ⟨b,2,none⟩ r).cell? ⟨b,2,none⟩ = some r :=
  ⟨(((h.set1 0 u).set1 1 v).set1 2 r).cell 0,(((h.set1 0 u).set1 1 v).set1 2 r).cell 1,(((h.set1 0 u).set1 1 v).set1 2 r).cell 2⟩
theorem below_put3 {w W:World} {b:Nat} (h:Below w.heap.size w W) (hb:w.heap.size ≤ b) (u v r:Value):Below w.heap.size w (((W.setCell ⟨b,0,none⟩ u).setCell ⟨b,1,none⟩ v).setCell ⟨b,2,none⟩ r) :=
  ((h.setCell (p:=⟨b,0,none⟩) hb _).setCell (p:=⟨b,1,none⟩) hb _).setCell (p:=⟨b,2,none⟩) hb _
def parsedV (s:List UInt8):Value:=match wrongP s with
  | some q=>.tuple #[decV (false,[],0),spotV 40 (q:Nat)]
  | none=>.tuple #[decV (bareP s),.nilIface]
theorem wrongP_le {s:List UInt8} {q:Nat} (h:wrongP s = some q):q ≤ s.length:=by
  unfold wrongP at h
  split at h
  · injection h with h;rw [← h];exact p0_le
  · split at h
    · rename_i h1;injection h with h;rw [← h];exact pt_lt h1.1
    · split at h
      · rename_i h1;injection h with h;rw [← h];exact p3_le h1.1
      · split at h
        · injection h with h;omega
        · cases h
set_option maxRecDepth 100000 in
theorem parsed_any (s:List UInt8) (w:World) (hs:s.length ≤ 140737488353000) :
    Calls Tryz.prog 78 #[sv s] w fun e w'=>e = .returned (parsedV s) ∧ Below w.heap.size w w':=by
  have HR:=Lib.hid (fun W=>read_any s W hs)
  have hb0:Below w.heap.size w (w.alloc (.cells #[.bool false,.string ⟨#[]⟩,.int .i64 0] 156)):=(Below.refl _ w).alloc (Nat.le_refl _) _
  have HK0:=Lib.hid (Blk.new w 156 #[.bool false,.string ⟨#[]⟩,.int .i64 0])
  have HB0:=Lib.hid hb0
  clear hb0
  cases hw:wrongP s with
  | some q =>
    have hq:=wrongP_le hw
    have HV:=Lib.hid (show litV s = .tuple #[.agg #[.bool false,.string ⟨#[]⟩,.string ⟨#[]⟩,.bool false,.string ⟨#[]⟩],.int .i64 (q:Nat)] by unfold litV;rw [hw])
    have HP:=Lib.hid (show parsedV s = .tuple #[.agg #[.bool false,.string ⟨#[]⟩,.int .i64 0],spotV 40 (q:Nat)] by unfold parsedV;rw [hw];rfl)
    rw [HV.out] at HR
    clear hw hq hs
    have hq0:(0:Int) ≤ (q:Int):=by omega
    go_enter Tryz.func78,Tryz.ntmps78
    go_wp2_with fail
    refine (HR.out _).mono ?_
    rintro e w1 ⟨rfl,hb1⟩
    have HK1:=Lib.hid ((HK0.out.below hb1 HK0.out.lt).alloc (.cells #[.bool false,.string ⟨#[]⟩,.string ⟨#[]⟩,.bool false,.string ⟨#[]⟩] 189))
    have HB1:=Lib.hid ((keepb HB0.out hb1).alloc (keepb HB0.out hb1).size (.cells #[.bool false,.string ⟨#[]⟩,.string ⟨#[]⟩,.bool false,.string ⟨#[]⟩] 189))
    obtain ⟨c0,c1,c2,f0,f1,f2⟩:=HK1.out.three
    clear hb1
    go_wp2_with fail
    obtain ⟨e0,e1,e2⟩:=HK1.out.put3 (.bool false) (.string ⟨#[]⟩) (.int .i64 0)
    exact bodyPost_ret (v:=.tuple #[.agg #[.bool false,.string ⟨#[]⟩,.int .i64 0],spotV 40 (q:Nat)]) (by simp [results,Tryz.results78,go_sem,e0,e1,e2]) rfl ⟨by rw [HP.out],below_put3 HB1.out (Nat.le_refl _) _ _ _⟩
  | none =>
    have hl:=parts_len s
    have HV:=Lib.hid (show litV s = .tuple #[.agg #[.bool (negP s),sv (wholeP s),sv (behindP s),.bool (underP s),sv (expP s)],.int .i64 (-1)] by unfold litV;rw [hw])
    have HP:=Lib.hid (show parsedV s = .tuple #[decV (bareP s),.nilIface] by unfold parsedV;rw [hw])
    have HQ:=Lib.hid (fun W=>bare_any (negP s) (underP s) (wholeP s) (behindP s) (expP s) W (by omega) (by omega) (expP_digits s))
    have hbr:stripD (negP s,wholeP s ++ behindP s,(if underP s then -(capE (expP s):Int) else (capE (expP s):Int)) - (behindP s).length) = bareP s:=rfl
    rw [hbr] at HQ
    rw [HV.out] at HR
    clear hw hs hl hbr
    generalize negP s = g at *
    generalize underP s = u at *
    generalize wholeP s = a at *
    generalize behindP s = b at *
    generalize expP s = x at *
    generalize bareP s = d at *
    obtain ⟨g',t',x'⟩:=d
    unfold decV sv at *
    go_enter Tryz.func78,Tryz.ntmps78
    go_wp2_with fail
    refine (HR.out _).mono ?_
    rintro e w1 ⟨rfl,hb1⟩
    have HK1:=Lib.hid ((HK0.out.below hb1 HK0.out.lt).alloc (.cells #[.bool g,.string ⟨a.toArray⟩,.string ⟨b.toArray⟩,.bool u,.string ⟨x.toArray⟩] 189))
    have HB1:=Lib.hid ((keepb HB0.out hb1).alloc (keepb HB0.out hb1).size (.cells #[.bool g,.string ⟨a.toArray⟩,.string ⟨b.toArray⟩,.bool u,.string ⟨x.toArray⟩] 189))
    clear hb1
    go_wp2_with fail
    refine (HQ.out _).mono ?_
    rintro e w2 ⟨rfl,hb2⟩
    have HK2:=Lib.hid (HK1.out.below hb2 HK1.out.lt)
    have HB2:=Lib.hid (keepb HB1.out hb2)
    obtain ⟨c0,c1,c2,f0,f1,f2⟩:=HK2.out.three
    clear hb2
    go_simp
    repeat go_step
    obtain ⟨e0,e1,e2⟩:=HK2.out.put3 (.bool g') (.string ⟨t'.toArray⟩) (.int .i64 x')
    exact bodyPost_ret (v:=.tuple #[.agg #[.bool g',.string ⟨t'.toArray⟩,.int .i64 x'],.nilIface]) (by simp [results,Tryz.results78,go_sem,e0,e1,e2]) rfl ⟨by rw [HP.out],below_put3 HB2.out (Nat.le_refl _) _ _ _⟩
end Go.Proofs.YtgmholdkdppbmaaGreatDoor
namespace Go.Proofs.YtgmholdkdppbmaaGreatDoor
open Go.RowKit
end Go.Proofs.YtgmholdkdppbmaaGreatDoor
namespace Go.Proofs.YtgmholdkdppbmaaGreatDoor
open Go.RowKit
attribute [local go_sem] SGives_value SGives_skip SGives_enter
end Go.Proofs.YtgmholdkdppbmaaGreatDoor

namespace Go.Proofs.YtgmholdkdppbmaaGreatDoor
open Go.RowKit
theorem NatB.over {x y:Nat} {w w':World} {e:Ending} (h:¬ blen x ≤ 8192) (hxy:x ≤ y) (hf:NatF 11 w e w'):NatB y w e w':=by
  unfold NatB
  rw [if_neg (fun hy=>h (Nat.le_trans (blen_mono hxy) hy))]
  exact hf
set_option maxRecDepth 100000 in
set_option maxHeartbeats 1000000 in
theorem power_nat (b n:Nat) (w:World) (hb:2 ≤ b) (hb':b < W64) (hn:0 < n) (hn':n ≤ 8192) :
    Calls Tryz.prog 125 #[wv b,.int .i64 (n:Int)] w (NatB (b ^ n) w):=by
  have HO:=Lib.hid (fun W=>of_nat 1 W (by decide))
  have HT:=Lib.hid (fun (A:Option Addr) (m c x:Nat) (W:World) (h:NatL W A m c x) (hx:blen x ≤ 8192)=>times_nat (.agg #[.slice A m c]) x b W ⟨A,m,c,rfl,h⟩ hb' (by omega))
  have HB2:=Lib.hid hb
  have t1:decide ((n:Int) < 0) = false:=decide_eq_false (by omega)
  have t2:((n:Int) == 0) = false:=by simp;omega
  have t3:decide ((b:Int) < 2) = false:=decide_eq_false (by omega)
  have t4:decide ((8192:Int) < (n:Int)) = false:=decide_eq_false (by omega)
  have t4':decide (8192 < n) = false:=decide_eq_false (by omega)
  have hnI:((n:Nat):Int) ≤ 8192:=by omega
  have HN:=Lib.hid hn
  have HK0:=Lib.hid (Blk.new w 208 #[.slice none 0 0])
  have HB0:=Lib.hid ((Below.refl _ w).alloc (Nat.le_refl _) (.cells #[.slice none 0 0] 208))
  clear hb hb' hn hn'
  have e1:wv 1 = .int .u64 1:=rfl
  rw [e1] at HO
  clear e1
  go_enter Tryz.func125,Tryz.ntmps125
  go_wp2_with fail
  refine (HO.out _).mono ?_
  rintro e w1 hv
  obtain ⟨A1,n1,c1,rfl,hl1,hb1⟩:=hv.open
  have HK1:=Lib.hid ((HK0.out.below hb1 HK0.out.lt).alloc (.cells #[.slice A1 n1 c1] 208))
  have HJ1:=Lib.hid (Blk.new w1 208 #[.slice A1 n1 c1])
  have HB1:=Lib.hid ((keepb HB0.out hb1).alloc (keepb HB0.out hb1).size (.cells #[.slice A1 n1 c1] 208))
  have HL1:=Lib.hid (hl1.below (below_new w1 (.cells #[.slice A1 n1 c1] 208)))
  have hlt1:w.heap.size < w1.heap.size:=Nat.lt_of_lt_of_le HK0.out.lt hb1.size
  have HLT:=Lib.hid hlt1
  clear hb1 hl1 hlt1 hv
  go_wp2_with fail
  go_loopw [30] (fun s wr=>∃ (k:Nat) (A:Option Addr) (m c:Nat),s = .int .i64 (k:Int) ∧ k ≤ n ∧ Blk wr w.heap.size 208 #[.slice none 0 0] ∧ Blk wr w1.heap.size 208 #[.slice A m c] ∧ NatL wr A m c (b ^ k) ∧ blen (b ^ k) ≤ 8192 ∧ Below w.heap.size w wr) (fun s _=>n - (intOf s).toNat)
  case atStart=>exact ⟨0,A1,n1,c1,by go_num,Nat.zero_le _,HK1.out,HJ1.out,by rw [Nat.pow_zero];exact HL1.out,by rw [Nat.pow_zero];decide,HB1.out⟩
  case round =>
    obtain ⟨k,A,m,c,rfl,hk,hk0,hj,hl,hbl,hbe⟩:=hrel
    have HK:=Lib.hid hk0
    have HJ:=Lib.hid hj
    have HL:=Lib.hid hl
    have HBL:=Lib.hid hbl
    have HBE:=Lib.hid hbe
    have hcell:=hj.cell 0
    have hcell:wr.cell? ⟨w1.heap.size,0,none⟩ = some (.slice A m c):=hcell
    clear hk0 hj hl hbl hbe
    rcases Nat.lt_or_ge k n with hlt | hge
    · have u1:decide ((k:Int) < (n:Int)) = true:=decide_eq_true (by omega)
      have u1':decide (k < n) = true:=by simpa using hlt
      have hp:b ^ k * b = b ^ (k + 1):=(Nat.pow_succ ..).symm
      have HTT:=Lib.hid (HT.out A m c (b ^ k) wr HL.out HBL.out)
      rw [hp] at HTT
      have HLK:=Lib.hid hlt
      clear hp
      by_cases ho:blen (b ^ (k + 1)) ≤ 8192
      · have HO2:=Lib.hid ho
        clear hlt ho
        go_wp2_with fail
        refine HTT.out.mono ?_
        rintro e w2 hm
        obtain ⟨A2,n2,c2,rfl,hl2,hb2⟩:=hm.small HO2.out
        have HJ2:=Lib.hid (((HJ.out.below hb2 HJ.out.lt).alloc (.cells #[.slice A2 n2 c2] 208)))
        have HK2:=Lib.hid (((HK.out.below hb2 HK.out.lt).alloc (.cells #[.slice A2 n2 c2] 208)))
        have HL2:=Lib.hid (hl2.below (below_new w2 (.cells #[.slice A2 n2 c2] 208)))
        have HBE2:=Lib.hid ((keepb HBE.out hb2).alloc (keepb HBE.out hb2).size (.cells #[.slice A2 n2 c2] 208))
        have hcl:=HJ2.out.cell 0
        have hcl:(w2.alloc (.cells #[.slice A2 n2 c2] 208)).cell? ⟨w1.heap.size,0,none⟩ = some (.slice A m c):=hcl
        have hfr:=HJ2.out.frozen 0
        have hbs:b ≠ 0:=by have:=HB2.out;omega
        clear hm hl2 hb2 hcell
        go_wp2_with fail
        have hne:w.heap.size ≠ w1.heap.size:=Nat.ne_of_lt HLT.out
        go_roundw
        case rel =>
          refine ⟨k + 1,A2,n2,c2,by go_num,HLK.out,HK2.out.far (p:=⟨w1.heap.size,0,none⟩) hne _,?_,?_,HO2.out,HBE2.out.setCell (p:=⟨w1.heap.size,0,none⟩) (Nat.le_of_lt HLT.out) _⟩
          · exact HJ2.out.set1 0 _
          · have:=(show NatW _ (.agg #[.slice A2 n2 c2]) (b ^ (k + 1)) from ⟨A2,n2,c2,rfl,HL2.out⟩).set HJ2.out (by decide) (i:=0) (.slice A2 n2 c2)
            obtain ⟨A3,n3,c3,he,hl3⟩:=this
            simp only [Value.agg.injEq,Array.mk.injEq,List.cons.injEq,Value.slice.injEq,and_true] at he
            obtain ⟨rfl,rfl,rfl⟩:=he
            exact hl3
        case measure=>have:=HLK.out;simp [intOf];omega
      · have HO2:=Lib.hid ho
        have hle:b ^ (k + 1) ≤ b ^ n:=Nat.pow_le_pow_right (by have:=HB2.out;omega) (by omega)
        have HLE:=Lib.hid hle
        clear hlt ho hle
        go_wp2_with fail
        refine HTT.out.mono ?_
        rintro e w2 hm
        unfold NatB at hm
        rw [if_neg HO2.out] at hm
        obtain ⟨rfl,hb2⟩:=hm
        have HK2:=Lib.hid (((HK.out.below hb2 HK.out.lt).alloc (.cells #[.slice none 0 0] 208)))
        have HBE2:=Lib.hid ((keepb HBE.out hb2).alloc (keepb HBE.out hb2).size (.cells #[.slice none 0 0] 208))
        have hcl:=HK2.out.cell 0
        have hcl:(w2.alloc (.cells #[.slice none 0 0] 208)).cell? ⟨w.heap.size,0,none⟩ = some (.slice none 0 0):=hcl
        have hfr:=HK2.out.frozen 0
        clear hb2 hcell
        go_wp2_with fail
        have hp:=HK2.out.put (i:=0) (by simp) (.slice none 0 0)
        exact bodyPost_ret (v:=.tuple #[.agg #[.slice none 0 0],enoV 11]) (by simp [results,Tryz.results125,go_sem,hp]) rfl (NatB.over HO2.out HLE.out ⟨rfl,HBE2.out.setCell (p:=⟨w.heap.size,0,none⟩) (Nat.le_refl _) _⟩)
    · obtain rfl:k = n:=by omega
      have u1:decide ((k:Int) < (k:Int)) = false:=by simp
      have u1':decide (k < k) = false:=by simp
      have hcl:wr.cell? ⟨w.heap.size,0,none⟩ = some (.slice none 0 0):=HK.out.cell 0
      have hfr:=HK.out.frozen 0
      clear hge hk
      go_wp2_with fail
      have hp:=HK.out.put (i:=0) (by simp) (.slice A m c)
      have hW:=(show NatW wr (.agg #[.slice A m c]) (b ^ k) from ⟨A,m,c,rfl,HL.out⟩).set HK.out (by decide) (i:=0) (.slice A m c)
      exact bodyPost_ret (v:=.tuple #[.agg #[.slice A m c],.nilIface]) (by simp [results,Tryz.results125,go_sem,hp]) rfl (by unfold NatB;rw [if_pos HBL.out];exact ⟨_,rfl,hW,HBE.out.setCell (p:=⟨w.heap.size,0,none⟩) (Nat.le_refl _) _⟩)
set_option maxRecDepth 100000 in
theorem power_zero (b:Int) (w:World):Calls Tryz.prog 125 #[.int .u64 b,.int .i64 0] w (NatE 1 w):=by
  have HO:=Lib.hid (fun W=>of_nat 1 W (by decide))
  have HK0:=Lib.hid (Blk.new w 208 #[.slice none 0 0])
  have HB0:=Lib.hid ((Below.refl _ w).alloc (Nat.le_refl _) (.cells #[.slice none 0 0] 208))
  have e1:wv 1 = .int .u64 1:=rfl
  rw [e1] at HO
  clear e1
  go_enter Tryz.func125,Tryz.ntmps125
  go_wp2_with fail
  refine (HO.out _).mono ?_
  rintro e w1 hv
  obtain ⟨A1,n1,c1,rfl,hl1,hb1⟩:=hv.open
  have HK1:=Lib.hid (HK0.out.below hb1 HK0.out.lt)
  have HB1:=Lib.hid (keepb HB0.out hb1)
  have HL1:=Lib.hid hl1
  clear hb1 hl1 hv
  have hcl:w1.cell? ⟨w.heap.size,0,none⟩ = some (.slice none 0 0):=HK1.out.cell 0
  have hfr:=HK1.out.frozen 0
  go_wp2_with fail
  have hp:=HK1.out.put (i:=0) (by simp) (.slice A1 n1 c1)
  have hW:=(show NatW w1 (.agg #[.slice A1 n1 c1]) 1 from ⟨A1,n1,c1,rfl,HL1.out⟩).set HK1.out (by decide) (i:=0) (.slice A1 n1 c1)
  exact bodyPost_ret (v:=.tuple #[.agg #[.slice A1 n1 c1],.nilIface]) (by simp [results,Tryz.results125,go_sem,hp]) rfl ⟨_,rfl,hW,HB1.out.setCell (p:=⟨w.heap.size,0,none⟩) (Nat.le_refl _) _⟩
theorem pow_ten_len {n:Nat} (h:n ≤ 2000):blen (10 ^ n) ≤ 8000:=by
  rcases Nat.eq_zero_or_pos n with rfl | hp
  · decide
  · have h1:10 ^ n < (2 ^ 4) ^ n:=Nat.pow_lt_pow_left (by decide) (by omega)
    rw [← Nat.pow_mul] at h1
    exact Nat.le_trans (blen_le.2 h1) (by omega)
theorem power_ten (n:Nat) (w:World) (hn:n ≤ 2000):Calls Tryz.prog 125 #[.int .u64 10,.int .i64 (n:Int)] w (NatE (10 ^ n) w):=by
  rcases Nat.eq_zero_or_pos n with rfl | h
  · exact power_zero 10 w
  · refine (power_nat 10 n w (by omega) (by decide) h (by omega)).mono fun e w' hm=>?_
    unfold NatB at hm
    rwa [if_pos (by have:=pow_ten_len hn;omega)] at hm
end Go.Proofs.YtgmholdkdppbmaaGreatDoor

namespace Go.Proofs.YtgmholdkdppbmaaGreatDoor
open Go.RowKit
set_option maxRecDepth 100000 in
theorem ten_nat (n:Nat) (w:World) (hn:n ≤ 2000):Calls Tryz.prog 114 #[.int .i64 (n:Int)] w (NatV (10 ^ n) w):=by
  have HO:=Lib.hid (fun W=>power_ten n W hn)
  have HK0:=Lib.hid (Blk.new w 208 #[.slice none 0 0])
  have HB0:=Lib.hid ((Below.refl _ w).alloc (Nat.le_refl _) (.cells #[.slice none 0 0] 208))
  clear hn
  go_enter Tryz.func114,Tryz.ntmps114
  go_wp2_with fail
  refine (HO.out _).mono ?_
  rintro e w1 ⟨v,rfl,hv,hb1⟩
  obtain ⟨A1,n1,c1,rfl,hl1⟩:=hv
  have HK1:=Lib.hid ((HK0.out.below hb1 HK0.out.lt).alloc (.cells #[.slice A1 n1 c1] 208))
  have HB1:=Lib.hid ((keepb HB0.out hb1).alloc (keepb HB0.out hb1).size (.cells #[.slice A1 n1 c1] 208))
  have HL1:=Lib.hid (hl1.below (below_new w1 (.cells #[.slice A1 n1 c1] 208)))
  clear hb1 hl1
  have hcl:(w1.alloc (.cells #[.slice A1 n1 c1] 208)).cell? ⟨w.heap.size,0,none⟩ = some (.slice none 0 0):=HK1.out.cell 0
  have hfr:=HK1.out.frozen 0
  go_wp2_with fail
  have hp:=HK1.out.put (i:=0) (by simp) (.slice A1 n1 c1)
  have hW:=(show NatW _ (.agg #[.slice A1 n1 c1]) (10 ^ n) from ⟨A1,n1,c1,rfl,HL1.out⟩).set HK1.out (by decide) (i:=0) (.slice A1 n1 c1)
  exact bodyPost_ret (v:=.agg #[.slice A1 n1 c1]) (by simp [results,Tryz.results114,go_sem,hp]) rfl ⟨_,rfl,hW,HB1.out.setCell (p:=⟨w.heap.size,0,none⟩) (Nat.le_refl _) _⟩
end Go.Proofs.YtgmholdkdppbmaaGreatDoor
namespace Go.Proofs.YtgmholdkdppbmaaGreatDoor
open Go.RowKit
attribute [local go_sem] SGives_value SGives_skip SGives_enter
def cutV (c:Nat × Int × Bool):Value:=.agg #[.int .u64 (c.1:Nat),.int .i64 c.2.1,.bool c.2.2]
structure RN (A B u1 u2 q r lq K j:Nat) (p kk:Int):Prop where
  e_p:p = 66 - ((blen A:Nat) - (blen B:Nat):Int)
  e_u1:u1 = p.toNat
  e_u2:u2 = (-p).toNat
  e_q:q = A * 2 ^ u1 / (B * 2 ^ u2)
  e_r:r = A * 2 ^ u1 % (B * 2 ^ u2)
  e_lq:lq = blen q
  lqa:66 ≤ lq
  lqb:lq ≤ 67
  e_kk:kk = max ((lq:Int) - 53 - p) (-1074)
  e_K:K = (kk + p).toNat
  e_K':(K:Int) = kk + p
  K0:13 ≤ K
  e_j:j = (kk + 1074).toNat
  e_j':(j:Int) = kk + 1074
  jb:j ≤ 2060
theorem rn_make {A B:Nat} (hA:0 < A) (hB:0 < B) (lA:blen A ≤ 4000) (lB:blen B ≤ 4000) (hR:blen A ≤ blen B + 1030):∃ u1 u2 q r lq K j p kk,RN A B u1 u2 q r lq K j p kk:=by
  obtain ⟨p,hp⟩:∃ p:Int,p = 66 - ((blen A:Nat) - (blen B:Nat):Int):=⟨_,rfl⟩
  have h1:blen (A * 2 ^ p.toNat) = blen A + p.toNat:=blen_mul _ _ (by omega)
  have h2:blen (B * 2 ^ (-p).toNat) = blen B + (-p).toNat:=blen_mul _ _ (by omega)
  have g1:=blen_lt (A * 2 ^ p.toNat)
  have g2:=blen_ge (x:=A * 2 ^ p.toNat) (Nat.pos_iff_ne_zero.1 (Nat.mul_pos hA (Nat.pow_pos (by omega))))
  have g3:=blen_lt (B * 2 ^ (-p).toNat)
  have hdp:0 < B * 2 ^ (-p).toNat:=Nat.mul_pos hB (Nat.pow_pos (by omega))
  have g4:=blen_ge (x:=B * 2 ^ (-p).toNat) (Nat.pos_iff_ne_zero.1 hdp)
  rw [h1] at g1 g2
  rw [h2] at g3 g4
  have hAp:=blen_pos (x:=A) (by omega)
  have hBp:=blen_pos (x:=B) (by omega)
  obtain ⟨D,hD⟩:∃ D,blen B + (-p).toNat = D + 1:=⟨blen B + (-p).toNat - 1,by omega⟩
  have hN:blen A + p.toNat = D + 67:=by omega
  rw [hN] at g1 g2
  rw [hD] at g3 g4
  have q1:2 ^ 65 ≤ A * 2 ^ p.toNat / (B * 2 ^ (-p).toNat):=by
    rw [Nat.le_div_iff_mul_le hdp]
    refine Nat.le_trans (Nat.mul_le_mul_left _ (Nat.le_of_lt g3)) ?_
    have e:65 + (D + 1) = D + 67 - 1:=by omega
    rw [← Nat.pow_add,e]
    exact g2
  have q2:A * 2 ^ p.toNat / (B * 2 ^ (-p).toNat) < 2 ^ 67:=by
    rw [Nat.div_lt_iff_lt_mul hdp]
    refine Nat.lt_of_lt_of_le g1 ?_
    have e:D + 67 = 67 + (D + 1 - 1):=by omega
    rw [e,Nat.pow_add]
    exact Nat.mul_le_mul_left _ g4
  generalize hq:A * 2 ^ p.toNat / (B * 2 ^ (-p).toNat) = q at *
  have l2:=blen_le.2 q2
  have l1:66 ≤ blen q:=by
    rcases Nat.lt_or_ge (blen q) 66 with h | h
    · exact absurd (blen_le.1 (show blen q ≤ 65 by omega)) (Nat.not_lt.2 q1)
    · exact h
  clear q1 q2 g1 g2 g3 g4
  refine ⟨_,_,q,_,_,_,_,p,max ((blen q:Int) - 53 - p) (-1074),hp,rfl,rfl,hq.symm,rfl,rfl,l1,l2,rfl,rfl,?_,?_,rfl,?_,?_⟩ <;> omega
set_option maxRecDepth 20000 in
theorem rn_law {A B u1 u2 q r lq K j:Nat} {p kk:Int} (h:RN A B u1 u2 q r lq K j p kk) (hB:0 < B) :
    (q / 2 ^ K < 2 * P52) ∧ cutP A B = if j * P52 + q / 2 ^ K ≤ most then (j * P52 + q / 2 ^ K,(if q / 2 ^ (K - 1) % 2 = 1 then (if q % 2 ^ (K - 1) ≠ 0 ∨ r ≠ 0 then 1 else 0) else -1),!(decide (q % 2 ^ K ≠ 0) || decide (r ≠ 0))) else (most,1,false):=by
  have h1:=h.e_p;have h2:=h.e_u1;have h3:=h.e_u2;have h4:=h.e_lq;have h5:=h.e_kk;have h6:=h.e_K';have h7:=h.e_j';have h8:=h.K0
  have hl:=ratio_law (A:=A) (B:=B) (u1:=u1) (u2:=u2) (K:=K) (j:=j) hB h.e_q h.e_r (by omega) (by omega) (by rw [← h4];omega)
  obtain ⟨e1,e2,e3,e4,e5⟩:=hl
  refine ⟨e3,?_⟩
  by_cases ho:j * P52 + q / 2 ^ K ≤ most
  · rw [if_pos ho,cutP_at e1 e2 e3 ho,e4]
    congr 2
    rw [Bool.eq_iff_iff,decide_eq_true_eq,e5]
    simp only [Bool.not_eq_true',Bool.or_eq_false_iff,decide_eq_false_iff_not,Decidable.not_not]
  · rw [if_neg ho,cutP_over hB (by rw [e1];omega)]
end Go.Proofs.YtgmholdkdppbmaaGreatDoor
namespace Go.Proofs.YtgmholdkdppbmaaGreatDoor
open Go.RowKit
attribute [local go_sem] SGives_value SGives_skip SGives_enter
theorem NatL.w {w:World} {A:Option Addr} {n c x:Nat} (h:NatL w A n c x):NatW w (.agg #[.slice A n c]) x:=⟨A,n,c,rfl,h⟩
theorem blk_eta {w:World} {b:Nat} {t:TypeId} {A:Option Addr} {n c:Nat} (h:Blk w b t #[.slice A n c]):w.cell? ⟨b,0,none⟩ = some (.slice A n c) ∧ w.frozen? ⟨b,0,none⟩ = false:=⟨h.cell 0,h.frozen 0⟩
theorem i64_52 (j:Nat) (h:j ≤ 2060):IntKind.u64.wrap ((j:Int) * 4503599627370496) = ((j * P52:Nat):Int):=by
  rw [show (j:Int) * 4503599627370496 = ((j * P52:Nat):Int) by unfold P52;omega]
  exact IntWalk.u64_in _ (by unfold P52;omega)
def lostB (q r K:Nat):Bool:=decide (q % 2 ^ K ≠ 0) || decide (r ≠ 0)
def halfI (q r K:Nat):Int:=if q / 2 ^ (K - 1) % 2 = 1 then (if q % 2 ^ (K - 1) ≠ 0 ∨ r ≠ 0 then 1 else 0) else -1
set_option maxRecDepth 100000 in
set_option maxHeartbeats 4000000 in
theorem ratio_any (v u:Value) (A B:Nat) (w:World) (hv:NatW w v A) (hu:NatW w u B) (hA:0 < A) (hB:0 < B) (lA:blen A ≤ 4000) (lB:blen B ≤ 4000) (hR:blen A ≤ blen B + 1030) :
    Calls Tryz.prog 115 #[v,u] w fun e w'=>e = .returned (cutV (cutP A B)) ∧ Below w.heap.size w w':=by
  obtain ⟨An,nn,cn,rfl,hln⟩:=hv
  obtain ⟨Ad,nd,cd,rfl,hld⟩:=hu
  obtain ⟨u1,u2,q,r,lq,K,j,p,kk,h⟩:=rn_make hA hB lA lB hR
  obtain ⟨hm2,hlaw⟩:=rn_law h hB
  have HLAW:=Lib.hid (show cutP A B = if j * P52 + q / 2 ^ K ≤ most then (j * P52 + q / 2 ^ K,halfI q r K,!lostB q r K) else (most,1,false) from hlaw)
  have HM2:=Lib.hid hm2
  have hn1:=blen_pos (x:=A) (by omega)
  have hd1:=blen_pos (x:=B) (by omega)
  have e1:=h.e_p
  have e2:=h.e_u1
  have e3:=h.e_u2
  have HLN:=Lib.hid (fun W (h:NatL W An nn cn A)=>len_nat _ A W h.w (by omega))
  have HLD:=Lib.hid (fun W (h:NatL W Ad nd cd B)=>len_nat _ B W h.w (by omega))
  have HSN:=Lib.hid (fun W (h:NatL W An nn cn A)=>shl_nat _ A p W h.w (by omega) (by omega))
  have HSD:=Lib.hid (fun W (h:NatL W Ad nd cd B)=>shl_nat _ B (-p) W h.w (by omega) (by omega))
  have HBN:=Lib.hid (show blen (A * 2 ^ u1) ≤ 8192 by rw [blen_mul _ _ (by omega)];omega)
  have HBD:=Lib.hid (show blen (B * 2 ^ u2) ≤ 8192 by rw [blen_mul _ _ (by omega)];omega)
  have HBP:=Lib.hid (show 0 < B * 2 ^ u2 from Nat.mul_pos hB (Nat.pow_pos (by omega)))
  rw [← e2] at HSN
  rw [← e3] at HSD
  have HU1:=Lib.hid (show p < 0 → u1 = 0 by omega)
  have HU2:=Lib.hid (show 0 ≤ p → u2 = 0 by omega)
  have k1:IntKind.i64.wrap ((blen A:Int) - (blen B:Int)) = 66 - p:=by rw [IntWalk.i64_in _ (by omega)];omega
  have k2:IntKind.i64.wrap (66 - (66 - p)) = p:=by rw [IntWalk.i64_in _ (by omega)];omega
  have k3:IntKind.i64.wrap (-p) = -p:=IntWalk.i64_in _ (by omega)
  have HK1:=Lib.hid k1
  have HK2:=Lib.hid k2
  have HK3:=Lib.hid k3
  have hpb:-4000 ≤ p ∧ p ≤ 4100:=by omega
  have HPB:=Lib.hid hpb
  obtain ⟨tb,htb⟩:∃ tb,decide (0 ≤ p) = tb:=⟨_,rfl⟩
  have HTB:=Lib.hid htb
  have HH:=Lib.hid h
  have HBpos:=Lib.hid hB
  clear h hm2 hlaw k1 k2 k3 hpb e1 e2 e3 hA hB lA lB hR hn1 hd1
  have hb0:Below w.heap.size w (((w.alloc (.cells #[.slice An nn cn] 208)).alloc (.cells #[.slice Ad nd cd] 208)).alloc (.cells #[.int .u64 0,.int .i64 0,.bool false] 194)):=by go_grown
  have hk2:Blk (((w.alloc (.cells #[.slice An nn cn] 208)).alloc (.cells #[.slice Ad nd cd] 208)).alloc (.cells #[.int .u64 0,.int .i64 0,.bool false] 194)) w.heap.size 208 #[.slice An nn cn]:=((Blk.new w _ _).alloc _).alloc _
  have hk3:Blk (((w.alloc (.cells #[.slice An nn cn] 208)).alloc (.cells #[.slice Ad nd cd] 208)).alloc (.cells #[.int .u64 0,.int .i64 0,.bool false] 194)) (w.heap.size + 1) 208 #[.slice Ad nd cd]:=by
    have:=(Blk.new (w.alloc (.cells #[.slice An nn cn] 208)) 208 #[.slice Ad nd cd]).alloc (.cells #[.int .u64 0,.int .i64 0,.bool false] 194)
    rwa [World.size_alloc] at this
  have hk4:Blk (((w.alloc (.cells #[.slice An nn cn] 208)).alloc (.cells #[.slice Ad nd cd] 208)).alloc (.cells #[.int .u64 0,.int .i64 0,.bool false] 194)) (w.heap.size + 1 + 1) 194 #[.int .u64 0,.int .i64 0,.bool false]:=by
    have:=Blk.new ((w.alloc (.cells #[.slice An nn cn] 208)).alloc (.cells #[.slice Ad nd cd] 208)) 194 #[.int .u64 0,.int .i64 0,.bool false]
    rwa [World.size_alloc,World.size_alloc] at this
  have HB0:=Lib.hid hb0
  have HK20:=Lib.hid hk2
  have HK30:=Lib.hid hk3
  have HK40:=Lib.hid hk4
  have HN0:=Lib.hid (hln.below hb0)
  have HD0:=Lib.hid (hld.below hb0)
  clear hb0 hk2 hk3 hk4 hln hld
  generalize hW0:(((w.alloc (.cells #[.slice An nn cn] 208)).alloc (.cells #[.slice Ad nd cd] 208)).alloc (.cells #[.int .u64 0,.int .i64 0,.bool false] 194)) = W0 at *
  go_enter Tryz.func115,Tryz.ntmps115
  go_upto_region 1 with fail
  clear hW0
  obtain ⟨S,SD⟩:∃ S:World → Prop,Go.RowKit.Hid (∀ w':World,S w' ↔ (Blk w' w.heap.size 208 #[.slice An nn cn] ∧ Blk w' (w.heap.size + 1) 208 #[.slice Ad nd cd] ∧ Below W0.heap.size W0 w')):=⟨_,Lib.hid (fun _=>Iff.rfl)⟩
  have k1:=HK1.out
  have k2:=HK2.out
  refine wp_region_sure (S:=S) (by kernel_rfl) (by kernel_rfl) ((SD.out _).2 ⟨HK20.out.drew,HK30.out.drew,(Below.refl _ _).drew⟩) ?_
  repeat
    (first
      | (refine SureL.no (by rfl) ?_;simp only [Act.put,List.setIfInBounds_toArray,List.set_cons_zero,List.set_cons_succ])
      | (refine' SureL.yes (by rfl) (fun wS hS=>?_) ?_
         rotate_left
         · have hS':=(SD.out _).1 hS
           obtain ⟨hS1,hS2,hBS⟩:=hS'
           obtain ⟨c2,f2⟩:=blk_eta hS1
           obtain ⟨c3,f3⟩:=blk_eta hS2
           go_simp
           first
             | exact ⟨rfl,hS⟩
             | (with_reducible refine (HLN.out _ (HN0.out.below hBS)).mono ?_;rintro e w' ⟨rfl,hbn⟩;exact ⟨rfl,(SD.out _).2 ⟨hS1.below hbn hS1.lt,hS2.below hbn hS2.lt,keepb hBS hbn⟩⟩)
             | (with_reducible refine (HLD.out _ (HD0.out.below hBS)).mono ?_;rintro e w' ⟨rfl,hbn⟩;exact ⟨rfl,(SD.out _).2 ⟨hS1.below hbn hS1.lt,hS2.below hbn hS2.lt,keepb hBS hbn⟩⟩)
         simp only [Act.put,List.setIfInBounds_toArray,List.set_cons_zero,List.set_cons_succ]))
  refine SureL.nil ?_
  intro wE hE
  obtain ⟨hS1,hS2,hbw⟩:=(SD.out _).1 hE
  have HS1:=Lib.hid hS1
  have HS2:=Lib.hid hS2
  have HN1:=Lib.hid (HN0.out.below hbw)
  have HD1:=Lib.hid (HD0.out.below hbw)
  have HK41:=Lib.hid (HK40.out.below hbw HK40.out.lt)
  have HB1:=Lib.hid (keepb HB0.out hbw)
  obtain ⟨c2,f2⟩:=blk_eta hS1
  obtain ⟨c3,f3⟩:=blk_eta hS2
  clear hS1 hS2 hbw hE SD S k1 k2
  go_upto_if 24 with fail
  go_cut [25] from 25 to 38 (fun s25 wx=>(∃ (An:Option Addr) (nn cn:Nat) (Ad:Option Addr) (nd cd:Nat),Blk wx w.heap.size 208 #[.slice An nn cn] ∧ Blk wx (w.heap.size + 1) 208 #[.slice Ad nd cd] ∧ NatL wx An nn cn (A * 2 ^ u1) ∧ NatL wx Ad nd cd (B * 2 ^ u2)) ∧ Blk wx (w.heap.size + 1 + 1) 194 #[.int .u64 0,.int .i64 0,.bool false] ∧ Below w.heap.size w wx)
  case first =>
    clear htb
    cases tb with
    | true =>
      have HU:=Lib.hid (HU2.out (of_decide_eq_true HTB.out))
      go_wp2_with fail
      refine (HSN.out _ HN1.out).mono ?_
      rintro e w1 hm
      obtain ⟨A1,n1,c1,rfl,hl1,hb1⟩:=hm.small HBN.out
      have HX:=Lib.hid (HS1.out.below hb1 HS1.out.lt)
      have HY:=Lib.hid (HS2.out.below hb1 HS2.out.lt)
      have HZ:=Lib.hid (HK41.out.below hb1 HK41.out.lt)
      have HL:=Lib.hid hl1
      have HM:=Lib.hid (HD1.out.below hb1)
      have HB2:=Lib.hid (keepb HB1.out hb1)
      clear hm hl1 hb1 c2 c3 f2 f3
      obtain ⟨c2,f2⟩:=blk_eta HX.out
      go_wp2_with fail
      go_meet
      refine ⟨⟨A1,n1,c1,Ad,nd,cd,HX.out.set1 0 _,HY.out.far (p:=⟨w.heap.size,0,none⟩) (by simp) _,HL.out.set HX.out (by decide) _,?_⟩,HZ.out.far (p:=⟨w.heap.size,0,none⟩) (by simp <;> omega) _,HB2.out.setCell (p:=⟨w.heap.size,0,none⟩) (Nat.le_refl _) _⟩
      rw [HU.out,Nat.pow_zero,Nat.mul_one]
      exact HM.out.set HX.out (by decide) _
    | false =>
      have HU:=Lib.hid (HU1.out (by have:=of_decide_eq_false HTB.out;omega))
      have k3:=HK3.out
      go_wp2_with fail
      refine (HSD.out _ HD1.out).mono ?_
      rintro e w1 hm
      obtain ⟨A1,n1,c1,rfl,hl1,hb1⟩:=hm.small HBD.out
      have HX:=Lib.hid (HS1.out.below hb1 HS1.out.lt)
      have HY:=Lib.hid (HS2.out.below hb1 HS2.out.lt)
      have HZ:=Lib.hid (HK41.out.below hb1 HK41.out.lt)
      have HL:=Lib.hid hl1
      have HM:=Lib.hid (HN1.out.below hb1)
      have HB2:=Lib.hid (keepb HB1.out hb1)
      clear hm hl1 hb1 c2 c3 f2 f3 k3
      obtain ⟨c2,f2⟩:=blk_eta HY.out
      go_wp2_with fail
      go_meet
      refine ⟨⟨An,nn,cn,A1,n1,c1,HX.out.far (p:=⟨w.heap.size + 1,0,none⟩) (by simp) _,HY.out.set1 0 _,?_,HL.out.set HY.out (by decide) _⟩,HZ.out.far (p:=⟨w.heap.size + 1,0,none⟩) (by simp) _,HB2.out.setCell (p:=⟨w.heap.size + 1,0,none⟩) (by simp) _⟩
      rw [HU.out,Nat.pow_zero,Nat.mul_one]
      exact HM.out.set HY.out (by decide) _
  case rest =>
    obtain ⟨⟨A1,n1,c1,A2,n2,c2,hx,hy,hl1,hl2⟩,hz,hbx⟩:=hcut
    have HZ:=Lib.hid hz
    have HBX:=Lib.hid hbx
    obtain ⟨c2,f2⟩:=blk_eta hx
    obtain ⟨c3,f3⟩:=blk_eta hy
    have HDV:=Lib.hid (div_nat _ _ (A * 2 ^ u1) (B * 2 ^ u2) _ hl1.w hl2.w (by have:=HBN.out;omega) (by have:=HBD.out;omega) HBP.out)
    clear hx hy hl1 hl2 hz hbx
    go_wp2_with fail
    refine HDV.out.mono ?_
    rintro e w1 ⟨Aq,nq,cq,Ar,nr,cr,rfl,hq,hr,hb1⟩
    rw [← HH.out.e_q] at hq
    rw [← HH.out.e_r] at hr
    have hbr:Below w1.heap.size w1 ((w1.alloc (.cells #[.slice Aq nq cq] 208)).alloc (.cells #[.slice Ar nr cr] 208)):=by go_grown
    have HQ6:=Lib.hid ((Blk.new w1 208 #[.slice Aq nq cq]).alloc (.cells #[.slice Ar nr cr] 208))
    have HR7:=Lib.hid (show Blk ((w1.alloc (.cells #[.slice Aq nq cq] 208)).alloc (.cells #[.slice Ar nr cr] 208)) (w1.heap.size + 1) 208 #[.slice Ar nr cr] by
      have:=Blk.new (w1.alloc (.cells #[.slice Aq nq cq] 208)) 208 #[.slice Ar nr cr]
      rwa [World.size_alloc] at this)
    have HZ2:=Lib.hid (((HZ.out.below hb1 HZ.out.lt).below hbr (Nat.lt_of_lt_of_le HZ.out.lt hb1.size)))
    have HB2:=Lib.hid (keepb (keepb HBX.out hb1) hbr)
    have HQL:=Lib.hid (hq.below hbr)
    have HRL:=Lib.hid (hr.below hbr)
    clear hq hr hb1 hbr c2 c3 f2 f3 HDV HZ HBX
    generalize hW2:((w1.alloc (.cells #[.slice Aq nq cq] 208)).alloc (.cells #[.slice Ar nr cr] 208)) = W2 at *
    obtain ⟨c6,f6⟩:=blk_eta HQ6.out
    have hlq:=HH.out.e_lq
    have HLQ:=Lib.hid (len_nat _ q W2 HQL.out.w (by have:=HH.out.lqb;omega))
    rw [← hlq] at HLQ
    have hlqa:(66:Int) ≤ (lq:Int):=by have:=HH.out.lqa;omega
    have hlqb:(lq:Int) ≤ 67:=by have:=HH.out.lqb;omega
    have hpa:=HPB.out.1
    have hpb:=HPB.out.2
    have hkk:max ((lq:Int) - 53 - p) (-1074) = kk:=HH.out.e_kk.symm
    clear hlq
    go_wp2_with fail
    refine HLQ.out.mono ?_
    rintro e w2 ⟨rfl,hb2⟩
    have HQ6b:=Lib.hid (HQ6.out.below hb2 HQ6.out.lt)
    have HR7b:=Lib.hid (HR7.out.below hb2 HR7.out.lt)
    have HZ3:=Lib.hid (HZ2.out.below hb2 HZ2.out.lt)
    have HB3:=Lib.hid (keepb HB2.out hb2)
    have HQL3:=Lib.hid (HQL.out.below hb2)
    have HRL3:=Lib.hid (HRL.out.below hb2)
    clear hb2 hW2 c6 f6 HLQ HQ6 HR7 HZ2 HB2 HQL HRL
    obtain ⟨c6,f6⟩:=blk_eta HQ6b.out
    go_upto_region 7 with fail
    clear hkk hlqa hlqb
    have hka:-1074 ≤ kk:=by have:=HH.out.e_kk;omega
    have hkb:kk ≤ 4100:=by have:=HH.out.e_kk;have:=HH.out.lqb;have:=HPB.out;omega
    have hkp:kk + p = (K:Int):=HH.out.e_K'.symm
    have HKN:=Lib.hid (show K ≤ 8200 by have:=HH.out.e_K';have:=HPB.out;omega)
    have HSH:=Lib.hid (nshr_nat _ q (K:Int) _ HQL3.out.w (by have:=HH.out.lqb;have:=HH.out.e_lq;omega) (by have:=HKN.out;omega))
    rw [Int.toNat_natCast] at HSH
    go_wp2_with fail
    refine HSH.out.mono ?_
    rintro e w3 ⟨Am,nm,cm,rfl,hm,hb3⟩
    have HQ6c:=Lib.hid ((HQ6b.out.below hb3 HQ6b.out.lt).alloc (.cells #[.slice Am nm cm] 208))
    have HR7c:=Lib.hid ((HR7b.out.below hb3 HR7b.out.lt).alloc (.cells #[.slice Am nm cm] 208))
    have HM10:=Lib.hid (Blk.new w3 208 #[.slice Am nm cm])
    have HZ4:=Lib.hid ((HZ3.out.below hb3 HZ3.out.lt).alloc (.cells #[.slice Am nm cm] 208))
    have hbn:=below_new w3 (.cells #[.slice Am nm cm] 208)
    have HB4:=Lib.hid (keepb (keepb HB3.out hb3) hbn)
    have HQL4:=Lib.hid ((HQL3.out.below hb3).below hbn)
    have HRL4:=Lib.hid ((HRL3.out.below hb3).below hbn)
    have HML4:=Lib.hid (hm.below hbn)
    have HLO:=Lib.hid (show lostB q r K = (decide (q % 2 ^ K ≠ 0) || decide (r ≠ 0)) from rfl)
    clear hm hb3 hbn c6 f6 HSH HQ6b HR7b HZ3 HB3 HQL3 HRL3
    generalize decide (q % 2 ^ K ≠ 0) = l1 at *
    generalize hW4:(w3.alloc (.cells #[.slice Am nm cm] 208)) = W4 at *
    go_upto_region 8 with fail
    clear hkp hW4
    go_cut [11] from 59 to 65 (fun s11 wy=>s11 = .bool (lostB q r K) ∧ Below W4.heap.size W4 wy)
    case first =>
      cases l1 with
      | true =>
        go_wp2_with fail
        go_meet
        exact ⟨by rw [HLO.out];rfl,Below.refl _ _⟩
      | false =>
        obtain ⟨c7,f7⟩:=blk_eta HR7c.out
        have hrl:blen r ≤ 8192:=by
          have h1:r < B * 2 ^ u2:=by rw [HH.out.e_r];exact Nat.mod_lt _ HBP.out
          exact Nat.le_trans (blen_mono (Nat.le_of_lt h1)) HBD.out
        have HLR:=Lib.hid (len_nat _ r W4 HRL4.out.w (by omega))
        have t1:decide ((0:Int) < ((blen r:Nat):Int)) = decide (r ≠ 0):=by
          rw [Bool.eq_iff_iff,decide_eq_true_eq,decide_eq_true_eq]
          constructor
          · intro h h0;rw [h0] at h;simp [blen_zero] at h
          · intro h;have:=blen_pos h;omega
        have t1':decide (0 < blen r) = decide (r ≠ 0):=by rw [← t1];rw [Bool.eq_iff_iff,decide_eq_true_eq,decide_eq_true_eq];omega
        clear hrl
        generalize decide (r ≠ 0) = l2 at *
        generalize blen r = br at *
        go_wp2_with fail
        refine HLR.out.mono ?_
        rintro e w4 ⟨rfl,hb4⟩
        have HBB:=Lib.hid hb4
        clear hb4
        go_wp2_with fail
        all_goals
          go_meet
          exact ⟨by rw [HLO.out];rfl,HBB.out⟩
    case rest =>
    obtain ⟨rfl,hby⟩:=hcut
    have HQ6d:=Lib.hid (HQ6c.out.below hby HQ6c.out.lt)
    have HR7d:=Lib.hid (HR7c.out.below hby HR7c.out.lt)
    have HM10d:=Lib.hid (HM10.out.below hby HM10.out.lt)
    have HZ5:=Lib.hid (HZ4.out.below hby HZ4.out.lt)
    have HB5:=Lib.hid (keepb HB4.out hby)
    have HQL5:=Lib.hid (HQL4.out.below hby)
    have HRL5:=Lib.hid (HRL4.out.below hby)
    have HML5:=Lib.hid (HML4.out.below hby)
    clear hby HQ6c HR7c HM10 HZ4 HB4 HQL4 HRL4 HML4
    generalize q / 2 ^ K = m at *
    have hm53:=HM2.out
    have hjb:=HH.out.jb
    have hW5:=Lib.hid (nword_nat _ (m) _ HML5.out.w (by have:=blen_le.2 (show m < 2 ^ 53 from hm53);omega))
    have hwv:wordV (m) = .tuple #[wv (m),.bool true]:=by unfold wordV;rw [if_pos (by unfold P52 W64 at *;omega)]
    rw [hwv] at hW5
    have hkj:kk + 1074 = (j:Int):=HH.out.e_j'.symm
    have hsu:IntKind.u64.wrap (((j * P52:Nat):Int) + ((m:Nat):Int)) = ((j * P52 + m:Nat):Int):=by
      rw [IntWalk.u64_in _ (by unfold P52 at *;omega)];omega
    have HOV:=Lib.hid (show j * P52 + m < 18446744073709551615 by unfold P52 at *;omega)
    have hwu:IntKind.u64.wrap (j:Int) = (j:Int):=IntWalk.u64_in _ (by omega)
    have hsh:=i64_52 j hjb
    obtain ⟨c10,f10⟩:=blk_eta HM10d.out
    clear hm53 hjb hwv HLO
    generalize hlb:lostB q r K = lb at *
    have HLBB:=Lib.hid hlb
    generalize hjp:j * P52 = jp at *
    generalize hbits:jp + m = bits at *
    have HBITS:=Lib.hid hbits
    clear hlb hbits hjp
    go_wp2_with fail
    refine hW5.out.mono ?_
    rintro e w5 ⟨rfl,hb5⟩
    have HQ6e:=Lib.hid (HQ6d.out.below hb5 HQ6d.out.lt)
    have HR7e:=Lib.hid (HR7d.out.below hb5 HR7d.out.lt)
    have HZ6:=Lib.hid (HZ5.out.below hb5 HZ5.out.lt)
    have HB6:=Lib.hid (keepb HB5.out hb5)
    have HQL6:=Lib.hid (HQL5.out.below hb5)
    have HRL6:=Lib.hid (HRL5.out.below hb5)
    clear hb5 HQ6d HR7d HZ5 HB5 HQL5 HRL5 HML5 HM10d c10 f10 hW5
    go_upto_region 11 with fail
    clear hkj hwu hsh hsu
    have HK14:=Lib.hid (Blk.new w5 194 #[.int .u64 (bits:Int),.int .i64 (-1),.bool !lb])
    have hbn:=below_new w5 (.cells #[.int .u64 (bits:Int),.int .i64 (-1),.bool !lb] 194)
    have HQ6f:=Lib.hid (HQ6e.out.below hbn HQ6e.out.lt)
    have HR7f:=Lib.hid (HR7e.out.below hbn HR7e.out.lt)
    have HZ7:=Lib.hid (HZ6.out.below hbn HZ6.out.lt)
    have HB7:=Lib.hid (keepb HB6.out hbn)
    have HQL7:=Lib.hid (HQL6.out.below hbn)
    have HRL7:=Lib.hid (HRL6.out.below hbn)
    have HLT:=Lib.hid (show w.heap.size ≤ w5.heap.size from HB6.out.size)
    have HNE:=Lib.hid (show w.heap.size + 1 + 1 ≠ w5.heap.size from Nat.ne_of_lt HZ6.out.lt)
    clear hbn HQ6e HR7e HZ6 HB6 HQL6 HRL6
    generalize hW7:(w5.alloc (.cells #[.int .u64 (bits:Int),.int .i64 (-1),.bool !lb] 194)) = W7 at *
    have hK0:=HH.out.K0
    have hkp:kk + p = (K:Int):=HH.out.e_K'.symm
    have hK1:IntKind.i64.wrap ((K:Int) - 1) = ((K - 1:Nat):Int):=by rw [IntWalk.i64_in _ (by have:=HKN.out;omega)];omega
    have hK1':(K:Int) - 1 = ((K - 1:Nat):Int):=by omega
    have hKI:(13:Int) ≤ (K:Int):=by omega
    have hKJ:(K:Int) ≤ 8200:=by have:=HKN.out;omega
    have HBT:=Lib.hid (bit_nat _ q ((K - 1:Nat):Int) _ HQL7.out.w (wf_nat _ (by have:=HKN.out;omega)))
    have hbv:bitV q ((K - 1:Nat):Int) = decide (q / 2 ^ (K - 1) % 2 = 1):=by
      unfold bitV
      rw [Int.toNat_natCast]
      have:(0:Int) ≤ ((K - 1:Nat):Int):=by omega
      simp [this]
    rw [hbv] at HBT
    have HHI:=Lib.hid (show halfI q r K = if decide (q / 2 ^ (K - 1) % 2 = 1) = true then (if q % 2 ^ (K - 1) ≠ 0 ∨ r ≠ 0 then 1 else 0) else -1 by unfold halfI;simp only [decide_eq_true_eq])
    have HSH:=Lib.hid (fun W (h:NatL W Aq nq cq q)=>nshr_nat _ q ((K - 1:Nat):Int) W h.w (by have:=HH.out.lqb;have:=HH.out.e_lq;omega) (by have:=HKN.out;omega))
    simp only [Int.toNat_natCast] at HSH
    generalize decide (q / 2 ^ (K - 1) % 2 = 1) = bb at *
    have HKK:=Lib.hid hkp
    clear hK0 hbv
    obtain ⟨c6,f6⟩:=blk_eta HQ6f.out
    go_wp2_with fail
    refine HBT.out.mono ?_
    rintro e w6 ⟨rfl,hb6⟩
    have HK14b:=Lib.hid (HK14.out.below hb6 HK14.out.lt)
    have HQ6g:=Lib.hid (HQ6f.out.below hb6 HQ6f.out.lt)
    have HR7g:=Lib.hid (HR7f.out.below hb6 HR7f.out.lt)
    have HZ8:=Lib.hid (HZ7.out.below hb6 HZ7.out.lt)
    have HB8:=Lib.hid (keepb HB7.out hb6)
    have HQL8:=Lib.hid (HQL7.out.below hb6)
    have HRL8:=Lib.hid (HRL7.out.below hb6)
    clear hb6 hW7 c6 f6 HQ6f HR7f HZ7 HB7 HQL7 HRL7 HBT HK14
    go_upto_if 84 with fail
    go_cut [85] from 85 to 101 (fun s85 wy=>Blk wy w5.heap.size 194 #[.int .u64 (bits:Int),.int .i64 (halfI q r K),.bool !lb] ∧ Blk wy (w.heap.size + 1 + 1) 194 #[.int .u64 0,.int .i64 0,.bool false] ∧ Below w.heap.size w wy)
    case first =>
      cases bb with
      | false =>
        have HI:=Lib.hid (show halfI q r K = -1 by rw [HHI.out];rfl)
        go_wp2_with fail
        go_meet
        exact ⟨by rw [HI.out];exact HK14b.out,HZ8.out,HB8.out⟩
      | true =>
        have HI:=Lib.hid (show halfI q r K = if (decide (q % 2 ^ (K - 1) ≠ 0) || decide (r ≠ 0)) = true then 1 else 0 by rw [HHI.out,if_pos rfl];simp only [Bool.or_eq_true,decide_eq_true_eq])
        obtain ⟨d0,d1,d2,g0,g1,g2⟩:=HK14b.out.three
        obtain ⟨c6,f6⟩:=blk_eta HQ6g.out
        have hne6:w1.heap.size < w6.heap.size:=HQ6g.out.lt
        have hne5:w1.heap.size ≠ w5.heap.size:=fun h=>by
          have a:=HQ6g.out
          have b:=HK14b.out
          rw [h] at a
          unfold Blk at a b
          rw [a] at b
          injection b with b
          injection b with b1 b2
          cases b2
        have HN5:=Lib.hid hne5
        have hne5b:w1.heap.size + 1 ≠ w5.heap.size:=fun h=>by
          have a:=HR7g.out
          have b:=HK14b.out
          rw [h] at a
          unfold Blk at a b
          rw [a] at b
          injection b with b
          injection b with b1 b2
          cases b2
        have HN5b:=Lib.hid hne5b
        clear hne6 hne5 hne5b
        have HQS:=Lib.hid (HQ6g.out.far (p:=⟨w5.heap.size,1,none⟩) HN5.out (.int .i64 0))
        have HQLS:=Lib.hid (HQL8.out.set HK14b.out (by decide) (i:=1) (.int .i64 0))
        have HRLS:=Lib.hid (HRL8.out.set HK14b.out (by decide) (i:=1) (.int .i64 0))
        have HKS:=Lib.hid (HK14b.out.set1 1 (.int .i64 0))
        have HZS:=Lib.hid (HZ8.out.far (p:=⟨w5.heap.size,1,none⟩) HNE.out (.int .i64 0))
        have HBS:=Lib.hid (HB8.out.setCell (p:=⟨w5.heap.size,1,none⟩) HLT.out (.int .i64 0))
        have hrl:blen r ≤ 8192:=by
          have h1:r < B * 2 ^ u2:=by rw [HH.out.e_r];exact Nat.mod_lt _ HBP.out
          exact Nat.le_trans (blen_mono (Nat.le_of_lt h1)) HBD.out
        have HLR:=Lib.hid (fun W (h:NatL W Ar nr cr r)=>len_nat _ r W h.w (by omega))
        have ht1:decide ((0:Int) < ((blen r:Nat):Int)) = decide (r ≠ 0):=by
          rw [Bool.eq_iff_iff,decide_eq_true_eq,decide_eq_true_eq]
          constructor
          · intro h h0;rw [h0] at h;simp [blen_zero] at h
          · intro h;have:=blen_pos h;omega
        have ht1':decide (0 < blen r) = decide (r ≠ 0):=by rw [← ht1];rw [Bool.eq_iff_iff,decide_eq_true_eq,decide_eq_true_eq];omega
        have HT1:=Lib.hid ht1
        have HT1':=Lib.hid ht1'
        clear hrl ht1 ht1'
        have hkp:=HKK.out
        generalize decide (r ≠ 0) = l2 at *
        generalize blen r = br at *
        have c6':(w6.setCell ⟨w5.heap.size,1,none⟩ (.int .i64 0)).cell? ⟨w1.heap.size,0,none⟩ = some (.slice Aq nq cq):=HQS.out.cell 0
        go_wp2_with fail
        refine (HSH.out _ HQLS.out).mono ?_
        rintro e w7 ⟨Ax,nx,cx,rfl,hx7,hb7⟩
        generalize decide (q % 2 ^ (K - 1) ≠ 0) = l1 at *
        have hbn:=below_new w7 (.cells #[.slice Ax nx cx] 208)
        have HKU:=Lib.hid ((HKS.out.below hb7 HKS.out.lt).below hbn (Nat.lt_of_lt_of_le HKS.out.lt hb7.size))
        have HZU:=Lib.hid ((HZS.out.below hb7 HZS.out.lt).below hbn (Nat.lt_of_lt_of_le HZS.out.lt hb7.size))
        have HBU:=Lib.hid (keepb (keepb HBS.out hb7) hbn)
        have HRU:=Lib.hid ((HRLS.out.below hb7).below hbn)
        have HR7u:=Lib.hid (((HR7g.out.far (p:=⟨w5.heap.size,1,none⟩) HN5b.out (.int .i64 0)).below hb7 (by have:=HR7g.out.lt;simpa [World.setCell] using this)).below hbn (Nat.lt_of_lt_of_le (by have:=HR7g.out.lt;simpa [World.setCell] using this) hb7.size))
        clear hb7 hbn hx7 hkp c6 c6' f6 d0 d1 d2 g0 g1 g2
        generalize hW8:(w7.alloc (.cells #[.slice Ax nx cx] 208)) = W8 at *
        cases l1 with
        | true =>
          have HI:=Lib.hid (show halfI q r K = 1 by rw [HI.out];rfl)
          have HKT:=Lib.hid (HKU.out.set1 1 (.int .i64 1))
          obtain ⟨d0,d1,d2,g0,g1,g2⟩:=HKU.out.three
          go_wp2_with fail
          go_meet
          exact ⟨by rw [HI.out];exact HKT.out,HZU.out.far (p:=⟨w5.heap.size,1,none⟩) HNE.out _,HBU.out.setCell (p:=⟨w5.heap.size,1,none⟩) HLT.out _⟩
        | false =>
          obtain ⟨c7,f7⟩:=blk_eta HR7u.out
          have t1:=HT1.out
          have t1':=HT1'.out
          go_wp2_with fail
          refine (HLR.out _ HRU.out).mono ?_
          rintro e w8 ⟨rfl,hb8⟩
          have HKU:=Lib.hid (HKU.out.below hb8 HKU.out.lt)
          have HZU:=Lib.hid (HZU.out.below hb8 HZU.out.lt)
          have HBU:=Lib.hid (keepb HBU.out hb8)
          clear hb8 c7 f7 hW8
          cases l2 with
          | true =>
            have HI:=Lib.hid (show halfI q r K = 1 by rw [HI.out];rfl)
            have HKT:=Lib.hid (HKU.out.set1 1 (.int .i64 1))
            obtain ⟨d0,d1,d2,g0,g1,g2⟩:=HKU.out.three
            go_wp2_with fail
            go_meet
            exact ⟨by rw [HI.out];exact HKT.out,HZU.out.far (p:=⟨w5.heap.size,1,none⟩) HNE.out _,HBU.out.setCell (p:=⟨w5.heap.size,1,none⟩) HLT.out _⟩
          | false =>
            have HI:=Lib.hid (show halfI q r K = 0 by rw [HI.out];rfl)
            go_wp2_with fail
            go_meet
            exact ⟨by rw [HI.out];exact HKU.out,HZU.out,HBU.out⟩
    case rest =>
    obtain ⟨hk,hz,hb⟩:=hcut
    have HKF:=Lib.hid hk
    have HZF:=Lib.hid hz
    have HBF:=Lib.hid hb
    have HCC:=HLAW
    obtain ⟨d0,d1,d2,g0,g1,g2⟩:=hk.three
    obtain ⟨a0,a1,a2,b0,b1,b2⟩:=hz.three
    clear hk hz hb
    generalize halfI q r K = hf at *
    by_cases ho:bits ≤ most
    · have t1:decide ((9218868437227405311:Int) < (bits:Int)) = false:=decide_eq_false (by unfold most at ho;omega)
      have t1':decide (9218868437227405311 < bits) = false:=decide_eq_false (by unfold most at ho;omega)
      have HC:=Lib.hid (show cutP A B = (bits,hf,!lb) by rw [HCC.out,if_pos ho])
      clear ho
      go_simp
      repeat go_step
      obtain ⟨x0,x1,x2⟩:=HZF.out.put3 (.int .u64 (bits:Int)) (.int .i64 hf) (.bool !lb)
      exact bodyPost_ret (v:=.agg #[.int .u64 (bits:Int),.int .i64 hf,.bool !lb]) (by simp [results,Tryz.results115,go_sem,x0,x1,x2]) rfl ⟨by rw [HC.out] <;> rfl,below_put3 HBF.out (by omega) _ _ _⟩
    · have t1:decide ((9218868437227405311:Int) < (bits:Int)) = true:=decide_eq_true (by unfold most at ho;omega)
      have t1':decide (9218868437227405311 < bits) = true:=decide_eq_true (by unfold most at ho;omega)
      have HC:=Lib.hid (show cutP A B = (most,1,false) by rw [HCC.out,if_neg ho])
      clear ho
      go_simp
      repeat go_step
      obtain ⟨x0,x1,x2⟩:=HZF.out.put3 (.int .u64 9218868437227405311) (.int .i64 1) (.bool false)
      exact bodyPost_ret (v:=.agg #[.int .u64 9218868437227405311,.int .i64 1,.bool false]) (by simp [results,Tryz.results115,go_sem,x0,x1,x2]) rfl ⟨by rw [HC.out] <;> rfl,below_put3 HBF.out (by omega) _ _ _⟩
end Go.Proofs.YtgmholdkdppbmaaGreatDoor

namespace Go.Proofs.YtgmholdkdppbmaaGreatDoor
open Go.RowKit
attribute [local go_sem] SGives_value SGives_skip SGives_enter CGives_value CGives_skip CGives_enter MGives_value MGives_skip MGives_enter
theorem sv_ne {l:List UInt8} (h:l ≠ []):l.isEmpty = false ∧ ((⟨l.toArray⟩:ByteArray) == ⟨#[]⟩) = false:=by
  refine ⟨?_,by rw [sv_empty];simpa using h⟩
  cases l with
  | nil=>exact absurd rfl h
  | cons a l=>rfl
theorem ten_any (n:Nat) (w:World) (hn:n ≤ 2000):Calls Tryz.prog 114 #[.int .i64 (n:Int)] w fun e w'=>∃ A m c,e = .returned (.agg #[.slice A m c]) ∧ NatL w' A m c (10 ^ n) ∧ Below w.heap.size w w' :=
  (ten_nat n w hn).mono fun e w' h=>by obtain ⟨v,rfl,⟨A,n,c,rfl,hl⟩,hb⟩:=h;exact ⟨A,n,c,rfl,hl,hb⟩
theorem mul_any (A B:Option Addr) (n c m d x y:Nat) (w:World) (h:NatL w A n c x) (k:NatL w B m d y) (hx:blen x ≤ 4000) (hy:blen y ≤ 4000) :
    Calls Tryz.prog 113 #[.agg #[.slice A n c],.agg #[.slice B m d]] w fun e w'=>∃ A n c,e = .returned (.tuple #[.agg #[.slice A n c],.nilIface]) ∧ NatL w' A n c (x * y) ∧ Below w.heap.size w w' :=
  (mul_nat (.agg #[.slice A n c]) (.agg #[.slice B m d]) x y w ⟨A,n,c,rfl,h⟩ ⟨B,m,d,rfl,k⟩ (by omega) (by omega)).mono fun e w' h=>by
    obtain ⟨A,n,c,rfl,hl,hb⟩:=h.small (by have:=blen_times hx hy;omega)
    exact ⟨A,n,c,rfl,hl,hb⟩
theorem p310 (k n:Nat) (hk:k = 310) (hn:n = 1030):10 ^ k ≤ 2 ^ n:=by subst hk hn;decide +kernel
theorem p801 (k:Nat) (hk:k = 801):blen (10 ^ k) ≤ 4000:=by subst hk;decide +kernel
theorem p1131 (k:Nat) (hk:k = 1131):blen (10 ^ k) ≤ 4000:=by subst hk;decide +kernel
theorem mid_bounds {d:Dm} (h:Lead d.2.1) (hl:d.2.1.length ≤ 801) (h1:topD d ≤ 310) (h2:-330 ≤ topD d) :
    blen (numD d) ≤ 4000 ∧ blen (denD d) ≤ 4000 ∧ blen (numD d) ≤ blen (denD d) + 1030 ∧ blen (dval d.2.1) ≤ 4000 ∧ blen (10 ^ d.2.2.toNat) ≤ 4000 ∧ d.2.2.toNat ≤ 2000 ∧ (-d.2.2).toNat ≤ 2000:=by
  have hlen:=h.len
  have hlt:=h.lt
  obtain ⟨a,ha⟩:∃ a,a = 1131:=⟨_,rfl⟩
  obtain ⟨b,hb⟩:∃ b,b = 801:=⟨_,rfl⟩
  obtain ⟨c,hc⟩:∃ c,c = 310:=⟨_,rfl⟩
  obtain ⟨e,he⟩:∃ e,e = 1030:=⟨_,rfl⟩
  have g1:=p1131 a ha
  have g2:=p801 b hb
  have g3:=p310 c e hc he
  have hml:=mag_lt h c (by omega)
  rw [← he]
  unfold topD at h1 h2
  have hd:denD d ≤ 10 ^ a:=pow10_mono (by omega)
  have hn:numD d < 10 ^ b:=by
    unfold numD
    refine Nat.lt_of_lt_of_le (Nat.mul_lt_mul_of_pos_right hlt (pow10 _)) ?_
    rw [← Nat.pow_add]
    exact pow10_mono (by omega)
  have hv:dval d.2.1 < 10 ^ b:=Nat.lt_of_lt_of_le hlt (pow10_mono (by omega))
  have hx:10 ^ d.2.2.toNat ≤ 10 ^ b:=pow10_mono (by omega)
  refine ⟨Nat.le_trans (blen_mono (Nat.le_of_lt hn)) g2,Nat.le_trans (blen_mono hd) g1,?_,Nat.le_trans (blen_mono (Nat.le_of_lt hv)) g2,Nat.le_trans (blen_mono hx) g2,by omega,by omega⟩
  rw [blen_le,Nat.add_comm,Nat.pow_add]
  exact Nat.lt_of_lt_of_le hml (Nat.mul_le_mul g3 (Nat.le_of_lt (blen_lt _)))
set_option maxRecDepth 100000 in
set_option maxHeartbeats 1000000 in
theorem floor_nil (g:Bool) (x:Int) (w:World) (hx:-1000000000000000 ≤ x ∧ x ≤ 1000000000000000) :
    Calls Tryz.prog 98 #[.agg #[.bool g,.string ⟨#[]⟩,.int .i64 x]] w fun e w'=>e = .returned (cutV (0,0,true)) ∧ Below w.heap.size w w':=by
  obtain ⟨h1,h2⟩:=hx
  have e0:(⟨#[]⟩:ByteArray).size = 0:=rfl
  go_enter Tryz.func98,Tryz.ntmps98
  go_upto_region 3 with fail
  repeat go_step
  exact bodyPost_ret (v:=.agg #[.int .u64 0,.int .i64 0,.bool true]) (by simp [results,Tryz.results98,go_sem]) rfl ⟨rfl,by go_grown⟩
set_option maxRecDepth 100000 in
set_option maxHeartbeats 1000000 in
theorem floor_great (g:Bool) (l:List UInt8) (x:Int) (w:World) (hl:l ≠ []) (hn:l.length ≤ 140737488353000) (hx:-1000000000000000 ≤ x ∧ x ≤ 1000000000000000) (ht:310 < (l.length:Int) + x) :
    Calls Tryz.prog 98 #[.agg #[.bool g,.string ⟨l.toArray⟩,.int .i64 x]] w fun e w'=>e = .returned (cutV (most,1,false)) ∧ Below w.heap.size w w':=by
  obtain ⟨h1,h2⟩:=hx
  obtain ⟨ke,ke2⟩:=sv_ne hl
  obtain ⟨t,htt⟩:∃ t:Int,(l.length:Int) + x = t:=⟨_,rfl⟩
  have k1:IntKind.i64.wrap ((l.length:Int) + x) = t:=by rw [IntWalk.i64_in _ (by omega)];exact htt
  rw [htt] at ht
  have t1:decide ((310:Int) < t) = true:=decide_eq_true ht
  clear hl hn h1 h2 ht htt
  go_enter Tryz.func98,Tryz.ntmps98
  go_upto_region 5 with fail
  repeat go_step
  exact bodyPost_ret (v:=.agg #[.int .u64 9218868437227405311,.int .i64 1,.bool false]) (by simp [results,Tryz.results98,go_sem]) rfl ⟨rfl,by go_grown⟩
set_option maxRecDepth 100000 in
set_option maxHeartbeats 1000000 in
theorem floor_tiny (g:Bool) (l:List UInt8) (x:Int) (w:World) (hl:l ≠ []) (hn:l.length ≤ 140737488353000) (hx:-1000000000000000 ≤ x ∧ x ≤ 1000000000000000) (ht:(l.length:Int) + x < -330) :
    Calls Tryz.prog 98 #[.agg #[.bool g,.string ⟨l.toArray⟩,.int .i64 x]] w fun e w'=>e = .returned (cutV (0,-1,false)) ∧ Below w.heap.size w w':=by
  obtain ⟨h1,h2⟩:=hx
  obtain ⟨ke,ke2⟩:=sv_ne hl
  obtain ⟨t,htt⟩:∃ t:Int,(l.length:Int) + x = t:=⟨_,rfl⟩
  have k1:IntKind.i64.wrap ((l.length:Int) + x) = t:=by rw [IntWalk.i64_in _ (by omega)];exact htt
  rw [htt] at ht
  have t0:decide ((310:Int) < t) = false:=decide_eq_false (by omega)
  have t1:decide (t < -330) = true:=decide_eq_true ht
  clear hl hn h1 h2 ht htt
  go_enter Tryz.func98,Tryz.ntmps98
  go_upto_region 7 with fail
  repeat go_step
  exact bodyPost_ret (v:=.agg #[.int .u64 0,.int .i64 (-1),.bool false]) (by simp [results,Tryz.results98,go_sem]) rfl ⟨rfl,by go_grown⟩
end Go.Proofs.YtgmholdkdppbmaaGreatDoor
namespace Go.Proofs.YtgmholdkdppbmaaGreatDoor
open Go.RowKit
attribute [local go_sem] SGives_value SGives_skip SGives_enter CGives_value CGives_skip CGives_enter MGives_value MGives_skip MGives_enter
set_option maxRecDepth 100000 in
set_option maxHeartbeats 4000000 in
theorem floor_mid (g:Bool) (l:List UInt8) (x:Int) (w:World) (hl:Lead l) (hn:l.length ≤ 140737488353000) (hx:-1000000000000000 ≤ x ∧ x ≤ 1000000000000000) (ht1:(l.length:Int) + x ≤ 310) (ht2:-330 ≤ (l.length:Int) + x) :
    Calls Tryz.prog 98 #[.agg #[.bool g,.string ⟨l.toArray⟩,.int .i64 x]] w fun e w'=>e = .returned (cutV (cutP (numD (shortD (g,l,x))) (denD (shortD (g,l,x))))) ∧ Below w.heap.size w w':=by
  obtain ⟨h1,h2⟩:=hx
  obtain ⟨ke,ke2⟩:=sv_ne hl.2.1
  have hs:=shortD_lead (d:=(g,l,x)) hl
  have hst:=shortD_top (g,l,x)
  have hsl:=shortD_len (g,l,x)
  have hsg:=shortD_neg (g,l,x)
  have htop:topD (g,l,x) = (l.length:Int) + x:=rfl
  have hmid:=mid_bounds hs hsl (by omega) (by omega)
  obtain ⟨t,htt⟩:∃ t:Int,(l.length:Int) + x = t:=⟨_,rfl⟩
  have k1:IntKind.i64.wrap ((l.length:Int) + x) = t:=by rw [IntWalk.i64_in _ (by omega)];exact htt
  have t0:decide ((310:Int) < t) = false:=decide_eq_false (by omega)
  have t1:decide (t < -330) = false:=decide_eq_false (by omega)
  have hshort:(800 < l.length ∧ (shortD (g,l,x)).2.1 = l.take 800 ++ [49] ∧ (shortD (g,l,x)).2.2 = x + l.length - 801) ∨ (l.length ≤ 800 ∧ (shortD (g,l,x)).2.1 = l ∧ (shortD (g,l,x)).2.2 = x):=by
    rcases Nat.lt_or_ge 800 l.length with h | h
    · left;unfold shortD;rw [if_pos h];exact ⟨h,rfl,rfl⟩
    · right;unfold shortD;rw [if_neg (show ¬ 800 < l.length by omega)];exact ⟨h,rfl,rfl⟩
  generalize shortD (g,l,x) = D at *
  obtain ⟨g',ls,xs⟩:=D
  simp only at hs hsl hshort hmid hsg
  obtain ⟨b1,b2,b3,b4,b5,b6,b7⟩:=hmid
  have HP:=Lib.hid (fun W=>parse_ok ls W (by omega) hs.2.1 hs.1)
  have HBP:=Lib.hid (show blen (dval ls) ≤ 8192 by omega)
  have HO:=Lib.hid (fun W=>of_nat 1 W (by decide))
  have e1:wv 1 = .int .u64 1:=rfl
  rw [e1] at HO
  have HRA:=Lib.hid (fun v u W hv hu=>ratio_any v u (numD (g',ls,xs)) (denD (g',ls,xs)) W hv hu (mag_pos (d:=(g',ls,xs)) hs) (denD_pos _) b1 b2 b3)
  have HTN:=Lib.hid (fun W=>ten_any xs.toNat W b6)
  have HTD:=Lib.hid (fun W=>ten_any (-xs).toNat W b7)
  have HND:=Lib.hid (show numD (g',ls,xs) = dval ls * 10 ^ xs.toNat from rfl)
  have HDD:=Lib.hid (show denD (g',ls,xs) = 10 ^ (-xs).toNat from rfl)
  have HB4:=Lib.hid b4
  have HB5:=Lib.hid b5
  have HSH:=Lib.hid hshort
  have hxs:-2000 ≤ xs ∧ xs ≤ 2000:=by omega
  generalize cutP (numD (g',ls,xs)) (denD (g',ls,xs)) = cv at *
  obtain ⟨cv0,cv1,cv2⟩:=cv
  unfold cutV at *
  simp only at HRA ⊢
  have HXS:=Lib.hid hxs
  have hb0:Below w.heap.size w ((w.alloc (.cells #[.bool g,.string ⟨l.toArray⟩,.int .i64 x] 156)).alloc (.cells #[.int .u64 0,.int .i64 0,.bool false] 194)):=by go_grown
  have BB0:=Lib.hid hb0
  have B00:=Lib.hid ((Blk.new w 156 #[.bool g,.string ⟨l.toArray⟩,.int .i64 x]).alloc (.cells #[.int .u64 0,.int .i64 0,.bool false] 194))
  have B10:=Lib.hid (show Blk ((w.alloc (.cells #[.bool g,.string ⟨l.toArray⟩,.int .i64 x] 156)).alloc (.cells #[.int .u64 0,.int .i64 0,.bool false] 194)) (w.heap.size + 1) 194 #[.int .u64 0,.int .i64 0,.bool false] by
    have:=Blk.new (w.alloc (.cells #[.bool g,.string ⟨l.toArray⟩,.int .i64 x] 156)) 194 #[.int .u64 0,.int .i64 0,.bool false]
    rwa [World.size_alloc] at this)
  have hnI:((l.length:Nat):Int) ≤ 140737488353000:=by omega
  have HL:=Lib.hid hl
  have HSG:=Lib.hid hsg
  clear hl hn ht1 ht2 htt hs hst hsl hsg htop b1 b2 b3 b4 b5 b6 b7 e1 hshort hxs hb0
  obtain ⟨tl,htl⟩:∃ tl,decide ((800:Int) < (l.length:Int)) = tl:=⟨_,rfl⟩
  have htl':decide (800 < l.length) = tl:=by rw [← htl];rw [Bool.eq_iff_iff,decide_eq_true_eq,decide_eq_true_eq];omega
  have HTL:=Lib.hid htl'
  generalize hW0:((w.alloc (.cells #[.bool g,.string ⟨l.toArray⟩,.int .i64 x] 156)).alloc (.cells #[.int .u64 0,.int .i64 0,.bool false] 194)) = W0 at *
  obtain ⟨c0,c1,c2,f0,f1,f2⟩:=B00.out.three
  go_enter Tryz.func98,Tryz.ntmps98
  go_upto_if 31 with fail
  clear hW0 htl htl' ke ke2 k1 t0 t1
  go_cut [4] from 32 to 42 (fun s4 wy=>s4 = .string ⟨ls.toArray⟩ ∧ Blk wy w.heap.size 156 #[.bool g,.string ⟨l.toArray⟩,.int .i64 xs] ∧ Blk wy (w.heap.size + 1) 194 #[.int .u64 0,.int .i64 0,.bool false] ∧ Below w.heap.size w wy)
  case first =>
    cases tl with
    | true =>
      rcases HSH.out with ⟨q1,q2,q3⟩ | ⟨q1,q2,q3⟩
      rotate_left
      · exact absurd (of_decide_eq_true HTL.out) (by omega)
      have k1:(l.length:Int) - 801 + x = xs:=by omega
      have k2:x + ((l.length:Int) - 801) = xs:=by omega
      have hext:(⟨l.toArray⟩:ByteArray).extract 0 800 = ⟨(l.take 800).toArray⟩:=by rw [ext_cut];unfold cutL;simp
      have hcat:(⟨(l.take 800).toArray⟩:ByteArray) ++ ⟨#[49]⟩ = ⟨ls.toArray⟩:=by rw [q2];exact sv_cat (l.take 800) [49]
      have hli:(800:Int) ≤ (l.length:Int):=by omega
      have HXS2:=Lib.hid q3
      clear q1 q2 q3
      generalize hta:(⟨(l.take 800).toArray⟩:ByteArray) = ta at *
      have hsz:ta.size = 800:=by
        rw [← hta,sv_len,List.length_take]
        omega
      have hlz:(⟨ls.toArray⟩:ByteArray).size = 801:=by
        rw [← hcat,ByteArray.size_append,hsz];rfl
      clear hta
      obtain ⟨u,hu⟩:∃ u:Int,(l.length:Int) - 801 = u:=⟨_,rfl⟩
      have kq1:IntKind.i64.wrap ((l.length:Int) - 801) = u:=by rw [IntWalk.i64_in _ (by omega)];exact hu
      have hxu:x + u = xs:=by omega
      have kq2:IntKind.i64.wrap (x + u) = xs:=by rw [IntWalk.i64_in _ (by have:=HXS.out;omega)];exact hxu
      have hle:800 ≤ l.length:=by omega
      clear k1 k2
      go_wp2_with fail
      go_meet
      exact ⟨rfl,B00.out.set1 2 _,B10.out.far (p:=⟨w.heap.size,2,none⟩) (by simp) _,BB0.out.setCell (p:=⟨w.heap.size,2,none⟩) (Nat.le_refl _) _⟩
    | false =>
      rcases HSH.out with ⟨q1,q2,q3⟩ | ⟨q1,q2,q3⟩
      · exact absurd q1 (of_decide_eq_false HTL.out)
      have HQ2:=Lib.hid q2
      have HQ3:=Lib.hid q3
      clear q1 q2 q3
      go_wp2_with fail
      go_meet
      exact ⟨by rw [HQ2.out],by rw [HQ3.out];exact B00.out,B10.out,BB0.out⟩
  case rest =>
  obtain ⟨rfl,hk0,hk1,hkb⟩:=hcut
  have B0:=Lib.hid hk0
  have B1:=Lib.hid hk1
  have BB:=Lib.hid hkb
  obtain ⟨c0_0,c0_1,c0_2,f0,f1,f2⟩:=hk0.three
  clear hk0 hk1 hkb c0 c1 c2
  clear c0_0 c0_1 c0_2 f0 f1 f2
  have c0_0:=B0.out.cell 0
  have c0_1:=B0.out.cell 1
  have c0_2:=B0.out.cell 2
  have c1_0:=B1.out.cell 0
  have c1_1:=B1.out.cell 1
  have c1_2:=B1.out.cell 2
  go_wp2_with fail
  refine (HP.out _).mono ?_
  rintro e w1 hm
  obtain ⟨A5,n5,c5,rfl,hl,hb⟩:=hm.small HBP.out
  clear hm
  have L1:=Nat.lt_of_lt_of_le B1.out.lt hb.size
  clear c0_0 c0_1 c0_2 c1_0 c1_1 c1_2
  have B0:=Lib.hid ((B0.out.st hb).alloc (.cells #[.slice A5 n5 c5] 208))
  have B1:=Lib.hid ((B1.out.st hb).alloc (.cells #[.slice A5 n5 c5] 208))
  have N0:=Lib.hid (hl.below (below_new _ (.cells #[.slice A5 n5 c5] 208)))
  have hbk:=keepb BB.out hb
  have BB:=Lib.hid (hbk.alloc hbk.size (.cells #[.slice A5 n5 c5] 208))
  have B2:=Lib.hid (Blk.new w1 208 #[.slice A5 n5 c5])
  clear hbk hb hl
  have c0_0:=B0.out.cell 0
  have c0_1:=B0.out.cell 1
  have c0_2:=B0.out.cell 2
  have c1_0:=B1.out.cell 0
  have c1_1:=B1.out.cell 1
  have c1_2:=B1.out.cell 2
  have c2_0:=B2.out.cell 0
  go_wp2_with fail
  refine (HO.out _).mono ?_
  rintro e w2 hm
  obtain ⟨A7,n7,c7,rfl,hl,hb⟩:=hm.open
  clear hm
  have L2:=Nat.lt_of_lt_of_le B2.out.lt hb.size
  clear c0_0 c0_1 c0_2 c1_0 c1_1 c1_2 c2_0
  have B0:=Lib.hid ((B0.out.st hb).alloc (.cells #[.slice A7 n7 c7] 208))
  have B1:=Lib.hid ((B1.out.st hb).alloc (.cells #[.slice A7 n7 c7] 208))
  have B2:=Lib.hid ((B2.out.st hb).alloc (.cells #[.slice A7 n7 c7] 208))
  have N0:=Lib.hid ((N0.out.below hb).below (below_new _ (.cells #[.slice A7 n7 c7] 208)))
  have N1:=Lib.hid (hl.below (below_new _ (.cells #[.slice A7 n7 c7] 208)))
  have hbk:=keepb BB.out hb
  have BB:=Lib.hid (hbk.alloc hbk.size (.cells #[.slice A7 n7 c7] 208))
  have B3:=Lib.hid (Blk.new w2 208 #[.slice A7 n7 c7])
  clear hbk hb hl
  have c0_0:=B0.out.cell 0
  have c0_1:=B0.out.cell 1
  have c0_2:=B0.out.cell 2
  have c1_0:=B1.out.cell 0
  have c1_1:=B1.out.cell 1
  have c1_2:=B1.out.cell 2
  have c2_0:=B2.out.cell 0
  have c3_0:=B3.out.cell 0
  cases hx0:decide (0 ≤ xs) with
  | true =>
    have hx1:0 ≤ xs:=of_decide_eq_true hx0
    have hxn:((xs.toNat:Nat):Int) = xs:=by omega
    rw [hxn] at HTN
    have HD1:=Lib.hid (show denD (g',ls,xs) = 1 by rw [HDD.out,show (-xs).toNat = 0 by omega])
    clear hxn hx1
    go_upto_region 15 with fail
    clear hx0
    clear c0_0 c0_1 c0_2 c1_0 c1_1 c1_2 c2_0 c3_0
    have SAL:w.heap.size ≤ w.heap.size:=Nat.le_refl _
    obtain ⟨S,SA⟩:∃ S:World → Prop,Go.RowKit.Hid (∀ x:World,S x ↔ (Blk x w.heap.size 156 #[.bool g,.string ⟨l.toArray⟩,.int .i64 xs] ∧ Blk x (w.heap.size + 1) 194 #[.int .u64 0,.int .i64 0,.bool false] ∧ Blk x w1.heap.size 208 #[.slice A5 n5 c5] ∧ Blk x w2.heap.size 208 #[.slice A7 n7 c7] ∧ NatL x A5 n5 c5 (dval ls) ∧ NatL x A7 n7 c7 (1) ∧ Below w.heap.size w x)):=⟨_,Lib.hid (fun _=>Iff.rfl)⟩
    refine wp_region_way (S:=S) (by kernel_rfl) (by kernel_rfl) (fun W W' h hb=>by obtain ⟨hb0,hb1,hb2,hb3,hn0,hn1,hB⟩:=(SA.out _).1 h;exact (SA.out _).2 ⟨hb0.st hb,hb1.st hb,hb2.st hb,hb3.st hb,hn0.below hb,hn1.below hb,hB.trans (hb.mono (Nat.le_trans SAL hB.size))⟩) ((SA.out _).2 ⟨B0.out.drew,B1.out.drew,B2.out.drew,B3.out.drew,N0.out.below (below_drewN (Below.refl _ _) 1),N1.out.below (below_drewN (Below.refl _ _) 1),BB.out.drew⟩) ?_
    first
      | (refine Way.no 0 (by rfl) (by kernel_rfl) (by rfl) ?_;simp only [Act.put,List.setIfInBounds_toArray,List.set_cons_zero,List.set_cons_succ])
      | (refine' Way.yes 0 (by rfl) (by kernel_rfl) (by rfl) (fun wS hS=>?_) ?_
         rotate_left
         · have hS':=(SA.out _).1 hS
           obtain ⟨hb0,hb1,hb2,hb3,hn0,hn1,hB⟩:=hS'
           have c0_0:=hb0.cell 0
           have c0_1:=hb0.cell 1
           have c0_2:=hb0.cell 2
           have c1_0:=hb1.cell 0
           have c1_1:=hb1.cell 1
           have c1_2:=hb1.cell 2
           have c2_0:=hb2.cell 0
           have c3_0:=hb3.cell 0
           go_simp
           first
             | exact ⟨rfl,Below.refl _ _⟩
         simp only [Act.put,List.setIfInBounds_toArray,List.set_cons_zero,List.set_cons_succ])
    first
      | (refine Way.no 1 (by rfl) (by kernel_rfl) (by rfl) ?_;simp only [Act.put,List.setIfInBounds_toArray,List.set_cons_zero,List.set_cons_succ])
      | (refine' Way.yes 1 (by rfl) (by kernel_rfl) (by rfl) (fun wS hS=>?_) ?_
         rotate_left
         · have hS':=(SA.out _).1 hS
           obtain ⟨hb0,hb1,hb2,hb3,hn0,hn1,hB⟩:=hS'
           have c0_0:=hb0.cell 0
           have c0_1:=hb0.cell 1
           have c0_2:=hb0.cell 2
           have c1_0:=hb1.cell 0
           have c1_1:=hb1.cell 1
           have c1_2:=hb1.cell 2
           have c2_0:=hb2.cell 0
           have c3_0:=hb3.cell 0
           go_simp
           first
             | exact ⟨rfl,Below.refl _ _⟩
         simp only [Act.put,List.setIfInBounds_toArray,List.set_cons_zero,List.set_cons_succ])
    first
      | (refine Way.no 2 (by rfl) (by kernel_rfl) (by rfl) ?_;simp only [Act.put,List.setIfInBounds_toArray,List.set_cons_zero,List.set_cons_succ])
      | (refine' Way.yes 2 (by rfl) (by kernel_rfl) (by rfl) (fun wS hS=>?_) ?_
         rotate_left
         · have hS':=(SA.out _).1 hS
           obtain ⟨hb0,hb1,hb2,hb3,hn0,hn1,hB⟩:=hS'
           have c0_0:=hb0.cell 0
           have c0_1:=hb0.cell 1
           have c0_2:=hb0.cell 2
           have c1_0:=hb1.cell 0
           have c1_1:=hb1.cell 1
           have c1_2:=hb1.cell 2
           have c2_0:=hb2.cell 0
           have c3_0:=hb3.cell 0
           go_simp
           first
             | exact ⟨rfl,Below.refl _ _⟩
         simp only [Act.put,List.setIfInBounds_toArray,List.set_cons_zero,List.set_cons_succ])
    refine Way.move 3 (by rfl) (by kernel_rfl) (by rfl) (fun V3 hS=>?_)
    have hS':=(SA.out _).1 hS
    obtain ⟨hb0,hb1,hb2,hb3,hn0,hn1,hB⟩:=hS'
    have c0_0:=hb0.cell 0
    have c0_1:=hb0.cell 1
    have c0_2:=hb0.cell 2
    have c1_0:=hb1.cell 0
    have c1_1:=hb1.cell 1
    have c1_2:=hb1.cell 2
    have c2_0:=hb2.cell 0
    have c3_0:=hb3.cell 0
    go_simp
    with_reducible refine (HTN.out _).mono ?_
    rintro e w8 ⟨A8,n8,c8,rfl,hl,hb⟩
    refine ⟨_,rfl,?_⟩
    obtain ⟨S_1,SA_1⟩:∃ S_1:World → Prop,Go.RowKit.Hid (∀ x:World,S_1 x ↔ (Blk x w.heap.size 156 #[.bool g,.string ⟨l.toArray⟩,.int .i64 xs] ∧ Blk x (w.heap.size + 1) 194 #[.int .u64 0,.int .i64 0,.bool false] ∧ Blk x w1.heap.size 208 #[.slice A5 n5 c5] ∧ Blk x w2.heap.size 208 #[.slice A7 n7 c7] ∧ NatL x A5 n5 c5 (dval ls) ∧ NatL x A7 n7 c7 (1) ∧ NatL x A8 n8 c8 (10 ^ xs.toNat) ∧ Below w.heap.size w x)):=⟨_,Lib.hid (fun _=>Iff.rfl)⟩
    have hst:Stays S_1:=fun W W' h hb=>by obtain ⟨hb0,hb1,hb2,hb3,hn0,hn1,hn2,hB⟩:=(SA_1.out _).1 h;exact (SA_1.out _).2 ⟨hb0.st hb,hb1.st hb,hb2.st hb,hb3.st hb,hn0.below hb,hn1.below hb,hn2.below hb,hB.trans (hb.mono (Nat.le_trans SAL hB.size))⟩
    have hle:∀ x,S_1 x → S x:=fun x h=>by obtain ⟨hb0,hb1,hb2,hb3,hn0,hn1,hn2,hB⟩:=(SA_1.out _).1 h;exact (SA.out _).2 ⟨hb0,hb1,hb2,hb3,hn0,hn1,hB⟩
    refine Moved.keep S_1 hst hle ((SA_1.out _).2 ⟨hb0.st hb,hb1.st hb,hb2.st hb,hb3.st hb,hn0.below hb,hn1.below hb,hl,hB.trans (hb.mono (Nat.le_trans SAL hB.size))⟩) ?_
    clear hst hle
    try simp only [Act.put,List.setIfInBounds_toArray,List.set_cons_zero,List.set_cons_succ]
    refine Way.move 4 (by rfl) (by kernel_rfl) (by rfl) (fun V4 hS=>?_)
    have hS':=(SA_1.out _).1 hS
    obtain ⟨hb0,hb1,hb2,hb3,hn0,hn1,hn2,hB⟩:=hS'
    have c0_0:=hb0.cell 0
    have c0_1:=hb0.cell 1
    have c0_2:=hb0.cell 2
    have c1_0:=hb1.cell 0
    have c1_1:=hb1.cell 1
    have c1_2:=hb1.cell 2
    have c2_0:=hb2.cell 0
    have c3_0:=hb3.cell 0
    go_simp
    with_reducible refine (mul_any _ _ _ _ _ _ _ _ _ hn0 hn2 HB4.out HB5.out).mono ?_
    rintro e w9 ⟨A9,n9,c9,rfl,hl,hb⟩
    refine ⟨_,rfl,?_⟩
    obtain ⟨S_2,SA_2⟩:∃ S_2:World → Prop,Go.RowKit.Hid (∀ x:World,S_2 x ↔ (Blk x w.heap.size 156 #[.bool g,.string ⟨l.toArray⟩,.int .i64 xs] ∧ Blk x (w.heap.size + 1) 194 #[.int .u64 0,.int .i64 0,.bool false] ∧ Blk x w1.heap.size 208 #[.slice A5 n5 c5] ∧ Blk x w2.heap.size 208 #[.slice A7 n7 c7] ∧ NatL x A5 n5 c5 (dval ls) ∧ NatL x A7 n7 c7 (1) ∧ NatL x A8 n8 c8 (10 ^ xs.toNat) ∧ NatL x A9 n9 c9 (dval ls * 10 ^ xs.toNat) ∧ Below w.heap.size w x)):=⟨_,Lib.hid (fun _=>Iff.rfl)⟩
    have hst:Stays S_2:=fun W W' h hb=>by obtain ⟨hb0,hb1,hb2,hb3,hn0,hn1,hn2,hn3,hB⟩:=(SA_2.out _).1 h;exact (SA_2.out _).2 ⟨hb0.st hb,hb1.st hb,hb2.st hb,hb3.st hb,hn0.below hb,hn1.below hb,hn2.below hb,hn3.below hb,hB.trans (hb.mono (Nat.le_trans SAL hB.size))⟩
    have hle:∀ x,S_2 x → S_1 x:=fun x h=>by obtain ⟨hb0,hb1,hb2,hb3,hn0,hn1,hn2,hn3,hB⟩:=(SA_2.out _).1 h;exact (SA_1.out _).2 ⟨hb0,hb1,hb2,hb3,hn0,hn1,hn2,hB⟩
    refine Moved.keep S_2 hst hle ((SA_2.out _).2 ⟨hb0.st hb,hb1.st hb,hb2.st hb,hb3.st hb,hn0.below hb,hn1.below hb,hn2.below hb,hl,hB.trans (hb.mono (Nat.le_trans SAL hB.size))⟩) ?_
    clear hst hle
    try simp only [Act.put,List.setIfInBounds_toArray,List.set_cons_zero,List.set_cons_succ]
    first
      | (refine Way.no 5 (by rfl) (by kernel_rfl) (by rfl) ?_;simp only [Act.put,List.setIfInBounds_toArray,List.set_cons_zero,List.set_cons_succ])
      | (refine' Way.yes 5 (by rfl) (by kernel_rfl) (by rfl) (fun wS hS=>?_) ?_
         rotate_left
         · have hS':=(SA_2.out _).1 hS
           obtain ⟨hb0,hb1,hb2,hb3,hn0,hn1,hn2,hn3,hB⟩:=hS'
           have c0_0:=hb0.cell 0
           have c0_1:=hb0.cell 1
           have c0_2:=hb0.cell 2
           have c1_0:=hb1.cell 0
           have c1_1:=hb1.cell 1
           have c1_2:=hb1.cell 2
           have c2_0:=hb2.cell 0
           have c3_0:=hb3.cell 0
           go_simp
           first
             | exact ⟨rfl,Below.refl _ _⟩
         simp only [Act.put,List.setIfInBounds_toArray,List.set_cons_zero,List.set_cons_succ])
    first
      | (refine Way.no 6 (by rfl) (by kernel_rfl) (by rfl) ?_;simp only [Act.put,List.setIfInBounds_toArray,List.set_cons_zero,List.set_cons_succ])
      | (refine' Way.yes 6 (by rfl) (by kernel_rfl) (by rfl) (fun wS hS=>?_) ?_
         rotate_left
         · have hS':=(SA_2.out _).1 hS
           obtain ⟨hb0,hb1,hb2,hb3,hn0,hn1,hn2,hn3,hB⟩:=hS'
           have c0_0:=hb0.cell 0
           have c0_1:=hb0.cell 1
           have c0_2:=hb0.cell 2
           have c1_0:=hb1.cell 0
           have c1_1:=hb1.cell 1
           have c1_2:=hb1.cell 2
           have c2_0:=hb2.cell 0
           have c3_0:=hb3.cell 0
           go_simp
           first
             | exact ⟨rfl,Below.refl _ _⟩
         simp only [Act.put,List.setIfInBounds_toArray,List.set_cons_zero,List.set_cons_succ])
    first
      | (refine Way.no 7 (by rfl) (by kernel_rfl) (by rfl) ?_;simp only [Act.put,List.setIfInBounds_toArray,List.set_cons_zero,List.set_cons_succ])
      | (refine' Way.yes 7 (by rfl) (by kernel_rfl) (by rfl) (fun wS hS=>?_) ?_
         rotate_left
         · have hS':=(SA_2.out _).1 hS
           obtain ⟨hb0,hb1,hb2,hb3,hn0,hn1,hn2,hn3,hB⟩:=hS'
           have c0_0:=hb0.cell 0
           have c0_1:=hb0.cell 1
           have c0_2:=hb0.cell 2
           have c1_0:=hb1.cell 0
           have c1_1:=hb1.cell 1
           have c1_2:=hb1.cell 2
           have c2_0:=hb2.cell 0
           have c3_0:=hb3.cell 0
           go_simp
           first
             | exact ⟨rfl,Below.refl _ _⟩
         simp only [Act.put,List.setIfInBounds_toArray,List.set_cons_zero,List.set_cons_succ])
    refine Way.move 8 (by rfl) (by kernel_rfl) (by rfl) (fun wS hS=>?_)
    have hS':=(SA_2.out _).1 hS
    obtain ⟨hb0,hb1,hb2,hb3,hn0,hn1,hn2,hn3,hB⟩:=hS'
    have c0_0:=hb0.cell 0
    have c0_1:=hb0.cell 1
    have c0_2:=hb0.cell 2
    have c1_0:=hb1.cell 0
    have c1_1:=hb1.cell 1
    have c1_2:=hb1.cell 2
    have c2_0:=hb2.cell 0
    have c3_0:=hb3.cell 0
    have f2_0:=hb2.frozen 0
    go_simp
    obtain ⟨S_3,SA_3⟩:∃ S_3:World → Prop,Go.RowKit.Hid (∀ x:World,S_3 x ↔ (Blk x w.heap.size 156 #[.bool g,.string ⟨l.toArray⟩,.int .i64 xs] ∧ Blk x (w.heap.size + 1) 194 #[.int .u64 0,.int .i64 0,.bool false] ∧ Blk x w1.heap.size 208 #[.slice A9 n9 c9] ∧ Blk x w2.heap.size 208 #[.slice A7 n7 c7] ∧ NatL x A5 n5 c5 (dval ls) ∧ NatL x A7 n7 c7 (1) ∧ NatL x A8 n8 c8 (10 ^ xs.toNat) ∧ NatL x A9 n9 c9 (dval ls * 10 ^ xs.toNat) ∧ Below w.heap.size w x)):=⟨_,Lib.hid (fun _=>Iff.rfl)⟩
    have hst:Stays S_3:=fun W W' h hb=>by obtain ⟨hb0,hb1,hb2,hb3,hn0,hn1,hn2,hn3,hB⟩:=(SA_3.out _).1 h;exact (SA_3.out _).2 ⟨hb0.st hb,hb1.st hb,hb2.st hb,hb3.st hb,hn0.below hb,hn1.below hb,hn2.below hb,hn3.below hb,hB.trans (hb.mono (Nat.le_trans SAL hB.size))⟩
    refine Moved.turn S_3 hst (by kernel_rfl) ((SA_3.out _).2 ⟨(hb0.far (by first | (simp;done) | (simp;omega)) _),(hb1.far (by first | (simp;done) | (simp;omega)) _),(hb2.set1 0 _),(hb3.far (by first | (simp;done) | (simp;omega)) _),(hn0.set hb2 (by decide) _),(hn1.set hb2 (by decide) _),(hn2.set hb2 (by decide) _),(hn3.set hb2 (by decide) _),(hB.setCell (by first | (simp;done) | (simp;omega)) _)⟩) ?_
    clear hst
    try simp only [Act.put,List.setIfInBounds_toArray,List.set_cons_zero,List.set_cons_succ]
    refine Way.done (by kernel_rfl) (fun wE hS=>?_)
    have hS':=(SA_3.out _).1 hS
    obtain ⟨hb0,hb1,hb2,hb3,hn0,hn1,hn2,hn3,hB⟩:=hS'
    have c0_0:=hb0.cell 0
    have c0_1:=hb0.cell 1
    have c0_2:=hb0.cell 2
    have c1_0:=hb1.cell 0
    have c1_1:=hb1.cell 1
    have c1_2:=hb1.cell 2
    have c2_0:=hb2.cell 0
    have c3_0:=hb3.cell 0
    clear hS
    have HZ:=Lib.hid hb1
    have HBX:=Lib.hid hB
    have HR:=Lib.hid (HRA.out _ _ _ (by rw [HND.out];exact hn3.w) (by rw [HD1.out];exact hn1.w))
    clear hb0 hb1 hn0 hn1 hn2 hn3 hB
    go_wp2_with fail
    refine HR.out.mono ?_
    rintro e w10 ⟨rfl,hb10⟩
    have HZ2:=Lib.hid (HZ.out.below hb10 HZ.out.lt)
    have HB2:=Lib.hid (keepb HBX.out hb10)
    obtain ⟨d0,d1,d2,g0,g1,g2⟩:=HZ2.out.three
    clear hb10
    go_simp
    repeat go_step
    obtain ⟨x0,x1,x2⟩:=HZ2.out.put3 (.int .u64 (cv0:Nat)) (.int .i64 cv1) (.bool cv2)
    exact bodyPost_ret (v:=.agg #[.int .u64 (cv0:Nat),.int .i64 cv1,.bool cv2]) (by simp [results,Tryz.results98,go_sem,x0,x1,x2]) rfl ⟨rfl,below_put3 HB2.out (by omega) _ _ _⟩
  | false =>
    have hx1:¬ 0 ≤ xs:=of_decide_eq_false hx0
    have hxn:(((-xs).toNat:Nat):Int) = -xs:=by omega
    have k4:IntKind.i64.wrap (-xs) = -xs:=IntWalk.i64_in _ (by have:=HXS.out;omega)
    rw [hxn] at HTD
    have HN1:=Lib.hid (show numD (g',ls,xs) = dval ls by rw [HND.out,show xs.toNat = 0 by omega,Nat.pow_zero,Nat.mul_one])
    clear hxn hx1
    go_wp2_with fail
    refine (HTD.out _).mono ?_
    rintro e w8 ⟨A8,n8,c8,rfl,hl,hb⟩
    clear c0_0 c0_1 c0_2 c1_0 c1_1 c1_2 c2_0 c3_0
    have B0:=Lib.hid (B0.out.st hb)
    have B1:=Lib.hid (B1.out.st hb)
    have B2:=Lib.hid (B2.out.st hb)
    have B3:=Lib.hid (B3.out.st hb)
    have N0:=Lib.hid (N0.out.below hb)
    have N2:=Lib.hid hl
    have BB:=Lib.hid (keepb BB.out hb)
    clear hb hl k4 hx0
    have c0_0:=B0.out.cell 0
    have c0_1:=B0.out.cell 1
    have c0_2:=B0.out.cell 2
    have c1_0:=B1.out.cell 0
    have c1_1:=B1.out.cell 1
    have c1_2:=B1.out.cell 2
    have c2_0:=B2.out.cell 0
    have c3_0:=B3.out.cell 0
    have hfr:=B3.out.frozen 0
    go_upto_region 17 with fail
    clear c0_0 c0_1 c0_2 c1_0 c1_1 c1_2 c2_0 c3_0
    have Z0:=B3.out.set1 0 (.slice A8 n8 c8)
    have Z1:=B1.out.far (p:=⟨w2.heap.size,0,none⟩) (by simp <;> omega) (.slice A8 n8 c8)
    have Z2:=B2.out.far (p:=⟨w2.heap.size,0,none⟩) (by simp <;> omega) (.slice A8 n8 c8)
    have z2:=Z2.cell 0
    have z0:=Z0.cell 0
    have ZN:=N0.out.set B3.out (by decide) (i:=0) (.slice A8 n8 c8)
    have ZM:=N2.out.set B3.out (by decide) (i:=0) (.slice A8 n8 c8)
    have ZB:=BB.out.setCell (p:=⟨w2.heap.size,0,none⟩) (by simp <;> omega) (.slice A8 n8 c8)
    have HZ:=Lib.hid Z1
    have HBX:=Lib.hid ZB
    have HR:=Lib.hid (HRA.out _ _ _ (by rw [HN1.out];exact ZN.w) (by rw [HDD.out];exact ZM.w))
    clear Z0 Z1 Z2 ZN ZM ZB
    go_wp2_with fail
    refine HR.out.mono ?_
    rintro e w10 ⟨rfl,hb10⟩
    have HZ2:=Lib.hid (HZ.out.below hb10 HZ.out.lt)
    have HB2:=Lib.hid (keepb HBX.out hb10)
    obtain ⟨d0,d1,d2,g0,g1,g2⟩:=HZ2.out.three
    clear hb10
    go_simp
    repeat go_step
    obtain ⟨x0,x1,x2⟩:=HZ2.out.put3 (.int .u64 (cv0:Nat)) (.int .i64 cv1) (.bool cv2)
    exact bodyPost_ret (v:=.agg #[.int .u64 (cv0:Nat),.int .i64 cv1,.bool cv2]) (by simp [results,Tryz.results98,go_sem,x0,x1,x2]) rfl ⟨rfl,below_put3 HB2.out (by omega) _ _ _⟩
end Go.Proofs.YtgmholdkdppbmaaGreatDoor
namespace Go.Proofs.YtgmholdkdppbmaaGreatDoor
open Go.RowKit
theorem floor_any (d:Dm) (w:World) (hb:Bare d) (hn:d.2.1.length ≤ 140737488353000) (hx:-1000000000000000 ≤ d.2.2 ∧ d.2.2 ≤ 1000000000000000) :
    Calls Tryz.prog 98 #[decV d] w fun e w'=>e = .returned (cutV (floorP d)) ∧ Below w.heap.size w w':=by
  obtain ⟨g,l,x⟩:=d
  by_cases hl:l = []
  · subst hl
    have:floorP (g,[],x) = (0,0,true):=by unfold floorP;rw [if_pos rfl]
    rw [this]
    exact floor_nil g x w hx
  · have hlead:=hb.lead hl
    by_cases h1:310 < (l.length:Int) + x
    · have:floorP (g,l,x) = (most,1,false):=by unfold floorP topD;rw [if_neg hl,if_pos h1]
      rw [this]
      exact floor_great g l x w hl hn hx h1
    · by_cases h2:(l.length:Int) + x < -330
      · have:floorP (g,l,x) = (0,-1,false):=by unfold floorP topD;rw [if_neg hl,if_neg h1,if_pos h2]
        rw [this]
        exact floor_tiny g l x w hl hn hx h2
      · have:floorP (g,l,x) = cutP (numD (shortD (g,l,x))) (denD (shortD (g,l,x))):=by unfold floorP topD;rw [if_neg hl,if_neg h1,if_neg h2]
        rw [this]
        exact floor_mid g l x w hlead hn hx (by omega) (by omega)
theorem cutB_most (A B:Nat):cutB A B ≤ most:=by unfold cutB;omega
theorem floorP_most (d:Dm):(floorP d).1 ≤ most:=by
  unfold floorP
  split
  · exact Nat.zero_le _
  · split
    · exact Nat.le_refl _
    · split
      · exact Nat.zero_le _
      · exact cutB_most _ _
def roundV (o:Option Nat):Value:=match o with
  | some b=>.tuple #[.int .u64 (b:Nat),.nilIface]
  | none=>.tuple #[.int .u64 0,enoV 41]
theorem roundV_some (b:Nat):roundV (some b) = .tuple #[.int .u64 (b:Nat),.nilIface]:=rfl
theorem roundV_none:roundV none = .tuple #[.int .u64 0,enoV 41]:=rfl
theorem and_one (y:Nat) (hy:y < 18446744073709551616):bits .and .u64 (y:Int) 1 = ((y % 2:Nat):Int):=by
  have h:=bits_and_u64_nat y 1 hy (by omega)
  rw [show y &&& 1 = y % 2 from Nat.and_two_pow_sub_one_eq_mod y 1] at h
  exact h
theorem or_top (b:Nat) (hb:b < 9223372036854775808):bits .or .u64 (b:Int) 9223372036854775808 = ((b + 9223372036854775808:Nat):Int):=by
  have h1:(BitVec.ofInt 64 (b:Int)).toNat = b:=by
    rw [BitVec.ofInt_natCast,BitVec.toNat_ofNat];exact Nat.mod_eq_of_lt (by omega)
  have h2:(BitVec.ofInt 64 (9223372036854775808:Int)).toNat = 9223372036854775808:=by decide
  show IntKind.u64.wrap ((BitVec.ofInt 64 (b:Int) ||| BitVec.ofInt 64 (9223372036854775808:Int)).toNat:Int) = _
  rw [BitVec.toNat_or,h1,h2,Nat.or_comm]
  have:=Nat.two_pow_add_eq_or_of_lt (b:=b) (i:=63) hb 1
  rw [show (9223372036854775808:Nat) = 2 ^ 63 * 1 from rfl,← this]
  rw [show 2 ^ 63 * 1 + b = b + 2 ^ 63 * 1 from Nat.add_comm _ _]
  exact wrapN _ (by unfold W64;omega)
set_option maxRecDepth 100000 in
set_option maxHeartbeats 2000000 in
theorem rounded_any (d:Dm) (way:Int) (w:World) (hb:Bare d) (hn:d.2.1.length ≤ 140737488353000) (hx:-1000000000000000 ≤ d.2.2 ∧ d.2.2 ≤ 1000000000000000) (hw:1 ≤ way ∧ way ≤ 5) :
    Calls Tryz.prog 79 #[decV d,.int .i64 way] w fun e w'=>e = .returned (roundV (roundP d way)) ∧ Below w.heap.size w w':=by
  have HF:=Lib.hid (fun W=>floor_any d W hb hn hx)
  have hm:=floorP_most d
  have HRP:=Lib.hid (show roundP d way = endP d.1 (if upP d.1 (floorP d) way then (floorP d).1 + 1 else (floorP d).1) from rfl)
  generalize roundP d way = rp at *
  generalize floorP d = c at *
  obtain ⟨b,h,x⟩:=c
  obtain ⟨g,l,y⟩:=d
  unfold decV cutV sv at *
  simp only at HF HRP hm
  clear hb hn hx
  have HM:=Lib.hid hm
  clear hm
  generalize hup:upP g (b,h,x) way = up at *
  have HB0:=Lib.hid ((Below.refl _ w).alloc (Nat.le_refl _) (.cells #[.bool g,.string ⟨l.toArray⟩,.int .i64 y] 156))
  have HK0:=Lib.hid (Blk.new w 156 #[.bool g,.string ⟨l.toArray⟩,.int .i64 y])
  have HUP:=Lib.hid hup
  clear hup
  go_enter Tryz.func79,Tryz.ntmps79
  go_wp2_with fail
  refine (HF.out _).mono ?_
  rintro e w1 ⟨rfl,hb1⟩
  have HK1:=Lib.hid ((HK0.out.below hb1 HK0.out.lt).alloc (.cells #[.int .u64 (b:Int),.int .i64 h,.bool x] 194))
  have HJ1:=Lib.hid (Blk.new w1 194 #[.int .u64 (b:Int),.int .i64 h,.bool x])
  have HB1:=Lib.hid ((keepb HB0.out hb1).alloc (keepb HB0.out hb1).size (.cells #[.int .u64 (b:Int),.int .i64 h,.bool x] 194))
  have HLT:=Lib.hid (show w.heap.size < w1.heap.size from Nat.lt_of_lt_of_le HK0.out.lt hb1.size)
  clear hb1
  generalize hW1:(w1.alloc (.cells #[.int .u64 (b:Int),.int .i64 h,.bool x] 194)) = W1 at *
  obtain ⟨c0,c1,c2,f0,f1,f2⟩:=HK1.out.three
  obtain ⟨d0,d1,d2,g0,g1,g2⟩:=HJ1.out.three
  go_upto_block 0 with fail
  clear hW1
  go_cut [7] from 11 to 51 (fun s7 wy=>s7 = .bool up ∧ wy = W1)
  case first =>
    rcases (show way = 1 ∨ way = 2 ∨ way = 3 ∨ way = 4 ∨ way = 5 by omega) with rfl | rfl | rfl | rfl | rfl
    · have hu:=HUP.out
      clear hw
      by_cases hh:h = 0
      · subst hh
        have hev:up = (!(b % 2 == 0) && !x):=by
          rw [← hu];unfold upP;simp
        have hand:=and_one b (by have:=HM.out;unfold most at this;omega)
        clear hu
        rcases Nat.mod_two_eq_zero_or_one b with hm2 | hm2
        · rw [hm2] at hev hand
          have HU2:=Lib.hid hev
          have hand:bits BinOp.and IntKind.u64 (b:Int) 1 = 0:=hand
          clear hev hm2
          go_wp2_with fail
          go_meet
          exact ⟨by rw [HU2.out];rfl,rfl⟩
        · rw [hm2] at hev hand
          have HU2:=Lib.hid hev
          have hand:bits BinOp.and IntKind.u64 (b:Int) 1 = 1:=hand
          clear hev hm2
          go_wp2_with fail
          go_meet
          exact ⟨by rw [HU2.out];cases x <;> rfl,rfl⟩
      · have t1:(h == 0) = false:=by simpa using hh
        have hu2:up = (decide (0 ≤ h) && !x):=by
          rw [← hu];unfold upP;simp [t1]
        by_cases h0:0 ≤ h
        · have t2:decide (0 ≤ h) = true:=decide_eq_true h0
          rw [t2] at hu2
          have HU2:=Lib.hid hu2
          clear hh h0 hu hu2
          go_wp2_with fail
          go_meet
          exact ⟨by rw [HU2.out];cases x <;> rfl,rfl⟩
        · have t2:decide (0 ≤ h) = false:=decide_eq_false h0
          rw [t2] at hu2
          have HU2:=Lib.hid hu2
          clear hh h0 hu hu2
          go_wp2_with fail
          go_meet
          exact ⟨by rw [HU2.out];rfl,rfl⟩
    · have hu:=HUP.out
      clear hw
      have hu2:up = (decide (0 ≤ h) && !x):=by
        rw [← hu];unfold upP;simp
      by_cases h0:0 ≤ h
      · have t2:decide (0 ≤ h) = true:=decide_eq_true h0
        rw [t2] at hu2
        have HU2:=Lib.hid hu2
        clear h0 hu hu2
        go_wp2_with fail
        go_meet
        exact ⟨by rw [HU2.out];cases x <;> rfl,rfl⟩
      · have t2:decide (0 ≤ h) = false:=decide_eq_false h0
        rw [t2] at hu2
        have HU2:=Lib.hid hu2
        clear h0 hu hu2
        go_wp2_with fail
        go_meet
        exact ⟨by rw [HU2.out];rfl,rfl⟩
    · have HU2:=Lib.hid (show up = false by rw [← HUP.out];unfold upP;simp)
      clear hw
      go_wp2_with fail
      go_meet
      exact ⟨by rw [HU2.out],rfl⟩
    · have HU2:=Lib.hid (show up = (g && !x) by rw [← HUP.out];unfold upP;simp)
      clear hw
      cases g with
      | true =>
        go_wp2_with fail
        go_meet
        exact ⟨by rw [HU2.out];cases x <;> rfl,rfl⟩
      | false =>
        go_wp2_with fail
        go_meet
        exact ⟨by rw [HU2.out];rfl,rfl⟩
    · have HU2:=Lib.hid (show up = (!g && !x) by rw [← HUP.out];unfold upP;simp)
      clear hw
      cases g with
      | true =>
        go_wp2_with fail
        go_meet
        exact ⟨by rw [HU2.out];rfl,rfl⟩
      | false =>
        go_wp2_with fail
        go_meet
        exact ⟨by rw [HU2.out];cases x <;> rfl,rfl⟩
  case rest =>
  obtain ⟨rfl,rfl⟩:=hcut
  have hmb:=HM.out
  have hb1:IntKind.u64.wrap ((b:Int) + 1) = ((b + 1:Nat):Int):=by rw [IntWalk.u64_in _ (by unfold most at hmb;omega)];omega
  have HQ:Hid (∃ b':Nat,b' = (if up then b + 1 else b) ∧ b' ≤ most + 1):=Lib.hid ⟨_,rfl,by split <;> omega⟩
  clear hw hmb
  go_upto_if 51 with fail
  go_cut [52] from 52 to 56 (fun s52 wy=>Blk wy w1.heap.size 194 #[.int .u64 ((if up then b + 1 else b:Nat):Int),.int .i64 h,.bool x] ∧ Blk wy w.heap.size 156 #[.bool g,.string ⟨l.toArray⟩,.int .i64 y] ∧ Below w.heap.size w wy)
  case first =>
    cases up with
    | true =>
      go_wp2_with fail
      go_meet
      exact ⟨HJ1.out.set1 0 _,HK1.out.far (p:=⟨w1.heap.size,0,none⟩) (Nat.ne_of_lt HLT.out) _,HB1.out.setCell (p:=⟨w1.heap.size,0,none⟩) (Nat.le_of_lt HLT.out) _⟩
    | false =>
      go_wp2_with fail
      go_meet
      exact ⟨HJ1.out,HK1.out,HB1.out⟩
  case rest =>
  obtain ⟨hk,hj,hb⟩:=hcut
  obtain ⟨b',hb',hbm⟩:=HQ.out
  rw [← hb'] at hk HRP
  have HJ2:=Lib.hid hk
  have HK2:=Lib.hid hj
  have HB2:=Lib.hid hb
  have HBM:=Lib.hid hbm
  clear hk hj hb hb' hbm c0 c1 c2 f0 f1 f2 d0 d1 d2 g0 g1 g2 hb1 HJ1 HK1 HB1 HQ
  obtain ⟨c0,c1,c2,f0,f1,f2⟩:=HK2.out.three
  obtain ⟨d0,d1,d2,g0,g1,g2⟩:=HJ2.out.three
  by_cases ho:most < b'
  · have HR2:=Lib.hid (show rp = none by rw [HRP.out];unfold endP;rw [if_pos ho])
    have t1:decide ((9218868437227405311:Int) < (b':Int)) = true:=decide_eq_true (by unfold most at ho;omega)
    have t1':decide (9218868437227405311 < b') = true:=decide_eq_true (by unfold most at ho;omega)
    clear ho
    go_wp2_with fail
    go_ret2
    exact ⟨by rw [HR2.out] <;> rfl,HB2.out⟩
  · have HR2:=Lib.hid (show rp = some (if g && decide (0 < b') then b' + 9223372036854775808 else b') by rw [HRP.out];unfold endP;rw [if_neg ho])
    have t1:decide ((9218868437227405311:Int) < (b':Int)) = false:=decide_eq_false (by unfold most at ho;omega)
    have t1':decide (9218868437227405311 < b') = false:=decide_eq_false (by unfold most at ho;omega)
    have HOT:=Lib.hid (or_top b' (by unfold most at ho;omega))
    clear ho
    cases g with
    | false =>
      have HR3:=Lib.hid (show rp = some b' by rw [HR2.out];rfl)
      go_wp2_with fail
      go_ret2
      exact ⟨by rw [HR3.out] <;> rfl,HB2.out⟩
    | true =>
      rcases Nat.eq_zero_or_pos b' with hz | hz
      · subst hz
        have HR3:=Lib.hid (show rp = some 0 by rw [HR2.out];rfl)
        go_wp2_with fail
        go_ret2
        exact ⟨by rw [HR3.out] <;> rfl,HB2.out⟩
      · have HR3:=Lib.hid (show rp = some (b' + 9223372036854775808) by rw [HR2.out];simp [hz])
        have t2:decide ((0:Int) < (b':Int)) = true:=decide_eq_true (by omega)
        have t2':decide (0 < b') = true:=decide_eq_true hz
        have hot:=HOT.out
        generalize hz':b' + 9223372036854775808 = z at *
        clear hz hz' HOT
        go_wp2_with fail
        go_ret2
        exact ⟨by rw [HR3.out] <;> rfl,HB2.out.setCell (p:=⟨w1.heap.size,0,none⟩) (Nat.le_of_lt HLT.out) _⟩
end Go.Proofs.YtgmholdkdppbmaaGreatDoor

namespace Go.Proofs.YtgmholdkdppbmaaGreatDoor
open Go.RowKit
theorem is_any (x:Int) (w:World) :
    Calls Tryz.prog 77 #[.int .i64 x] w fun e w'=>e = .returned (.bool (decide (1 ≤ x ∧ x ≤ 5))) ∧ w = w':=by
  by_cases h1:1 ≤ x
  · by_cases h2:x ≤ 5
    · have h:decide (1 ≤ x ∧ x ≤ 5) = true:=decide_eq_true ⟨h1,h2⟩
      rw [h]
      have t1:decide (1 ≤ x) = true:=decide_eq_true h1
      have t2:decide (x ≤ 5) = true:=decide_eq_true h2
      clear h1 h2 h
      go_enter Tryz.func77,Tryz.ntmps77
      go_wp2
      go_ret
      exact ⟨rfl,rfl⟩
    · have h:decide (1 ≤ x ∧ x ≤ 5) = false:=decide_eq_false (fun h=>h2 h.2)
      rw [h]
      have t1:decide (1 ≤ x) = true:=decide_eq_true h1
      have t2:decide (x ≤ 5) = false:=decide_eq_false h2
      clear h1 h2 h
      go_enter Tryz.func77,Tryz.ntmps77
      go_wp2
      go_ret
      exact ⟨rfl,rfl⟩
  · have h:decide (1 ≤ x ∧ x ≤ 5) = false:=decide_eq_false (fun h=>h1 h.1)
    rw [h]
    have t1:decide (1 ≤ x) = false:=decide_eq_false h1
    clear h1 h
    go_enter Tryz.func77,Tryz.ntmps77
    go_wp2
    go_ret
    exact ⟨rfl,rfl⟩
set_option maxRecDepth 100000 in
theorem round_ok (s:List UInt8) (way:Int) (w:World) (hs:s.length ≤ 140737488353000) (hw:1 ≤ way ∧ way ≤ 5) (hq:wrongP s = none) :
    Calls Tryz.prog 61 #[sv s,.int .i64 way] w fun e w'=>e = .returned (roundV (roundP (bareP s) way)) ∧ Below w.heap.size w w':=by
  have HI:=Lib.hid (fun W=>is_any way W)
  rw [decide_eq_true hw] at HI
  have HR:=Lib.hid (fun W=>parsed_any s W hs)
  have HV:=Lib.hid (show parsedV s = .tuple #[decV (bareP s),.nilIface] by unfold parsedV;rw [hq])
  rw [HV.out] at HR
  have hl:=bareP_len s
  have HQ:=Lib.hid (fun W=>rounded_any (bareP s) way W (bareP_bare s) (by omega) (by omega) hw)
  clear hw hq hs hl
  generalize hrp:roundP (bareP s) way = rp at *
  generalize bareP s = d at *
  obtain ⟨g,l,x⟩:=d
  unfold decV sv at *
  clear hrp
  obtain ⟨a,er,hae⟩:∃ a er,roundV rp = .tuple #[a,er]:=by cases rp <;> exact ⟨_,_,rfl⟩
  rw [hae] at HQ ⊢
  clear hae
  go_enter Tryz.func61,Tryz.ntmps61
  go_wp2_with fail
  refine (HI.out _).mono ?_
  rintro e w1 ⟨rfl,rfl⟩
  go_wp2_with fail
  refine (HR.out _).mono ?_
  rintro e w2 ⟨rfl,hb2⟩
  have HB2:=Lib.hid (hb2.alloc hb2.size (.cells #[.bool g,.string ⟨l.toArray⟩,.int .i64 x] 156))
  clear hb2
  go_wp2_with fail
  refine (HQ.out _).mono ?_
  rintro e w3 ⟨rfl,hb3⟩
  have HB3:=Lib.hid (keepb HB2.out hb3)
  clear hb3
  go_wp2_with fail
  go_ret2
  exact ⟨rfl,HB3.out⟩
set_option maxRecDepth 100000 in
theorem bits_any (s:List UInt8) (a er:Value) (w:World) (H:∀ W,Calls Tryz.prog 61 #[sv s,.int .i64 1] W fun e w'=>e = .returned (.tuple #[a,er]) ∧ Below W.heap.size W w') :
    Calls Tryz.prog 46 #[sv s] w fun e w'=>e = .returned (.tuple #[a,er]) ∧ Below w.heap.size w w':=by
  have HR:=Lib.hid H
  clear H
  go_enter Tryz.func46,Tryz.ntmps46
  go_wp2_with fail
  refine (HR.out _).mono ?_
  rintro e w1 ⟨rfl,hb1⟩
  go_wp2_with fail
  go_ret2
  exact ⟨rfl,hb1⟩
theorem bits_ok (s:List UInt8) (w:World) (hs:s.length ≤ 140737488353000) (hq:wrongP s = none) :
    Calls Tryz.prog 46 #[sv s] w fun e w'=>e = .returned (roundV (roundP (bareP s) 1)) ∧ Below w.heap.size w w':=by
  obtain ⟨a,er,hae⟩:∃ a er,roundV (roundP (bareP s) 1) = .tuple #[a,er]:=by cases roundP (bareP s) 1 <;> exact ⟨_,_,rfl⟩
  rw [hae]
  exact bits_any s _ _ w fun W=>by rw [← hae];exact round_ok s 1 W hs (by decide) hq
end Go.Proofs.YtgmholdkdppbmaaGreatDoor
namespace Go.Proofs.YtgmholdkdppbmaaGreatDoor
open Go.RowKit
theorem ta_eno (n:Int) (w:World):(Instr.typeAssert (enoV n) 26 30 true).run Tryz.prog w = .ok (.tuple #[.int .i64 n,.bool true]) w:=by kernel_rfl
theorem ta_spot (n q:Int) (w:World):(Instr.typeAssert (spotV n q) 26 95 true).run Tryz.prog w = .ok (.tuple #[.agg #[.int .i64 n,.int .i64 q],.bool true]) w:=by kernel_rfl
end Go.Proofs.YtgmholdkdppbmaaGreatDoor

namespace Go.Proofs.YtgmholdkdppbmaaGreatDoor.Lx
open Go.RowKit
theorem row_push {O:Nat → Prop} {w W w1 w':World} {v:Value} {l:List UInt8} {x:UInt8} {n g cap:Nat} (hO:∀ k,v.ownBlock = some k → O k) (hn:l.length = n)
    (hown:w1.ownsRow 0 5 1 (.slice (some ⟨g,0,none⟩) (n + 1) cap) (n + 1) ((l ++ [x]).map bv)) (hat:v.ownBlock = some g ∨ g = W.heap.size) (hW:w.heap.size ≤ W.heap.size) (hk:w'.heap[g]? = w1.heap[g]?) :
    Row (up O w) w' (.slice (some ⟨g,0,none⟩) (n + 1) cap) (l ++ [x]):=by
  refine ⟨?_,?_⟩
  · rw [List.length_append,hn]
    exact own_keep hown (fun k hk'=>by
      have:g = k:=by simpa [Value.ownBlock] using hk'
      subst this
      exact hk)
  · intro k hk'
    have:g = k:=by simpa [Value.ownBlock] using hk'
    subst this
    rcases hat with h | h
    · exact .inl (hO g h)
    · exact .inr (by omega)
set_option maxRecDepth 100000 in
theorem numeral_on (O:Nat → Prop) (b:Nat) (c0 c1 c2 c3 c4 c5 c8 c9 c10 c11 c12 c13 raw:Value) (st st':Nat) (c:UInt8) (l:List UInt8) (w:World)
    (hb:Blk w b 80 #[c0,c1,c2,c3,c4,c5,raw,.int .i64 (st:Int),c8,c9,c10,c11,c12,c13]) (hr:Row O w raw l) (hst:st ≤ 8) (hx:nxt st c = some st') (hl:l.length ≤ 1000000000000) :
    Calls Tryz.prog 52 #[.pointer (some ⟨b,0,none⟩),.int .u8 (c.toNat:Int)] w fun e w'=>e = .returned (.int .i64 0) ∧
      (∃ raw',Blk w' b 80 #[c0,c1,c2,c3,c4,c5,raw',.int .i64 (st':Int),c8,c9,c10,c11,c12,c13] ∧ Row (up O w) w' raw' (l ++ [c])) ∧ Fr (fun k=>k = b ∨ raw.ownBlock = some k) w w':=by
  obtain ⟨hown,hO⟩:=hr
  obtain ⟨n,hnn⟩:∃ n,l.length = n:=⟨_,rfl⟩
  rw [hnn] at hown hl
  obtain ⟨A,cp,rfl,_⟩:=own_shape hown
  have hap:=own_apart hown hb (by decide)
  have HN:=Lib.hid (fun W=>next_any st c W hst)
  rw [hx,show nxtV st (some st') = .tuple #[.int .i64 (st':Int),.bool true] from rfl] at HN
  have k7:=hb.cell 7
  have f7:=hb.frozen 7
  have b1:=hb.set1 7 (.int .i64 (st':Int))
  simp at k7 b1
  have k6:=b1.cell 6
  simp at k6
  have hw1:=(ownsRow_setCell_other hown (a:=⟨b,7,none⟩) hap (.int .i64 (st':Int))).alloc (.cells #[bv c] 5)
  have hap':(Value.slice A n cp).ownBlock ≠ some b:=hap
  have ha1:=b1.alloc (.cells #[bv c] 5)
  have hfr:Fr (fun k=>k = b ∨ (Value.slice A n cp).ownBlock = some k) w ((w.setCell ⟨b,7,none⟩ (.int .i64 (st':Int))).alloc (.cells #[bv c] 5)):=((Fr.refl _ w).setCell (p:=⟨b,7,none⟩) (.inl rfl) _).alloc _
  have hcl:((w.setCell ⟨b,7,none⟩ (.int .i64 (st':Int))).alloc (.cells #[bv c] 5)).cell? ⟨w.heap.size,0,none⟩ = some (bv c):=by
    have:=(Blk.new (w.setCell ⟨b,7,none⟩ (.int .i64 (st':Int))) 5 #[bv c]).cell 0
    simpa using this
  have HCL:=Lib.hid hcl
  have HFR:=Lib.hid hfr
  clear hcl
  have HA1:=Lib.hid ha1
  clear hfr ha1
  have HB:=Lib.hid b1
  have HW1:=Lib.hid hw1
  have HLN:=Lib.hid hnn
  clear hb hown b1 hw1 hnn
  go_enter Tryz.func52,Tryz.ntmps52
  go_wp2_with fail
  refine (HN.out _).mono ?_
  rintro e w' ⟨rfl,rfl⟩
  go_wp2_with (at_builtin;refine wpList_push rfl (.tmp 25) (.tmp 27) rfl 0 (.slice A n cp) n l rfl HW1.out _ _ rfl c HCL.out (by omega) (Nat.zero_le _) ?_;intro g cap w1 hown1 hg1 hat1 hlt1;have hbw:=HA1.out.grown hg1 (Ne.symm hap');have HBW:=Lib.hid hbw;have HFW:=Lib.hid (HFR.out.grown hg1 (fun k hk=>.inr hk));have HOW:=Lib.hid hown1;have HAT:=Lib.hid hat1;have f6:=hbw.frozen 6;have k6':=hbw.cell 6;simp at k6';clear hbw hown1 hg1 hat1)
  have hb2:=HBW.out.set1 6 (.slice (some ⟨g,0,none⟩) (n + 1) cap)
  simp at hb2
  have hgb:g ≠ b:=by
    rcases HAT.out with h | h
    · exact fun e=>hap' (by rw [h,e])
    · have:=HB.out.lt
      simp at h this
      omega
  go_ret
  refine ⟨rfl,⟨_,hb2,row_push (W:=(w.setCell ⟨b,7,none⟩ (.int .i64 (st':Int))).alloc (.cells #[bv c] 5)) hO HLN.out HOW.out HAT.out (by simp) (Below.heap_setCell _ _ _ g hgb)⟩,HFW.out.setCell (p:=⟨b,6,none⟩) (.inl rfl) _⟩
theorem fr_typed {w w':World} {b:Nat} {cs:Array Value} {v:Value} {base:Nat} {e:TypeId} {size n:Nat} {xs:List Value} (hf:Fr (fun k=>k = b ∨ v.ownBlock = some k) w w') (hb:Blk w b 80 cs) (hv:w.ownsRow base e size v n xs)
    {k:Nat} {t:TypeId} {c2:Array Value} {s:Nat × Nat} (hk:w.heap[k]? = some (.cells c2 t s)) (h1:t ≠ 80) (h2:t ≠ e):w'.heap[k]? = w.heap[k]?:=by
  refine hf.block k (Array.getElem?_eq_some_iff.1 hk).1 ?_
  rintro (rfl | h)
  · unfold Blk at hb
    rw [hb] at hk
    injection hk with hk
    injection hk with _ hk
    exact h1 hk.symm
  · rcases hv.2 with ⟨rfl,_⟩ | ⟨g,cap,cur,rfl,hg',hh,r⟩
    · simp [Value.ownBlock] at h
    · have:g = k:=by simpa [Value.ownBlock] using h
      subst this
      rw [hh] at hk
      injection hk with hk
      injection hk with _ hk
      exact h2 hk.symm
theorem fdr_fr {O:Nat → Prop} {w w':World} {b Q:Nat} {cs:Array Value} {v ch:Value} {n:Nat} {xs:List Value} {held:List UInt8} (hf:Fr (fun k=>k = b ∨ v.ownBlock = some k) w w') (hb:Blk w b 80 cs) (hv:w.ownsRow 0 5 1 v n xs)
    (ht:Fdr O w Q ch held):Fdr O w' Q ch held:=by
  obtain ⟨g,f,h1,h2,h3,h4,h5,h6,h7⟩:=ht
  obtain ⟨hs,a1,a2,a3,a4⟩:=h2
  exact ⟨g,f,h1,⟨hs,a1,a2,a3,(fr_typed hf hb hv a4 (by decide) (by decide)).trans a4⟩,h3,h4,h5,h6,h7⟩
theorem push_pack {O:Nat → Prop} {w W w1:World} {b g cap n d:Nat} {cs:Array Value} {v:Value} {l l2:List UInt8} (hW:Below w.heap.size w W) (hb:Blk w b 80 cs) (hr:Row O w v l) (hn:l.length = n) (hd:l2.length = d)
    (hown:w1.ownsRow 0 5 1 (.slice (some ⟨g,0,none⟩) (n + d) cap) (n + d) ((l ++ l2).map bv)) (hg:W.grownBy w1 v.ownBlock) (hat:v.ownBlock = some g ∨ g = W.heap.size) :
    Blk w1 b 80 cs ∧ ∀ i v',Blk (w1.setCell ⟨b,i,none⟩ v') b 80 (cs.setIfInBounds i v') ∧ Row (up O w) (w1.setCell ⟨b,i,none⟩ v') (.slice (some ⟨g,0,none⟩) (n + d) cap) (l ++ l2) ∧ Fr (fun k=>k = b ∨ v.ownBlock = some k) w (w1.setCell ⟨b,i,none⟩ v'):=by
  have hap:=own_apart hr.1 hb (by decide)
  have hb1:Blk w1 b 80 cs:=(hb.below hW hb.lt).grown hg (Ne.symm hap)
  refine ⟨hb1,fun i v'=>⟨hb1.set1 i v',⟨?_,?_⟩,?_⟩⟩
  · rw [List.length_append,hn,hd]
    refine ownsRow_setCell_other hown ?_ _
    intro h
    have h':g = b:=by simpa [Value.ownBlock] using h
    subst h'
    rcases hat with h | h
    · exact hap h
    · have:=hb.lt
      have:=hW.size
      omega
  · intro k hk
    have:g = k:=by simpa [Value.ownBlock] using hk
    subst this
    rcases hat with h | h
    · exact .inl (hr.2 g h)
    · exact .inr (by have:=hW.size;omega)
  · exact ((Fr.of_below hW).grown hg (fun k hk=>.inr hk)).setCell (p:=⟨b,i,none⟩) (.inl rfl) _
def flP (l:List UInt8):Option Nat:=roundP (bareP l) 1
end Go.Proofs.YtgmholdkdppbmaaGreatDoor.Lx

namespace Go.Proofs.YtgmholdkdppbmaaGreatDoor.Lx
open Go.RowKit
theorem trow_frG {O:Nat → Prop} {w w':World} {b:Nat} {cs:Array Value} {v tk:Value} {n:Nat} {xs ts:List Value} (hf:Fr (fun k=>k = b ∨ v.ownBlock = some k) w w') (hb:Blk w b 80 cs) (hv:w.ownsRow 0 5 1 v n xs)
    (ht:TRowG O w tk ts):TRowG O w' tk ts:=ht.keep (fun k hk=>by
  rcases ht.1 with ⟨rfl,_⟩ | ⟨g,o,cap,cur,rfl,hh,r⟩
  · simp [Value.ownBlock] at hk
  · have:g = k:=by simpa [Value.ownBlock] using hk
    subst this
    exact fr_typed hf hb hv hh (by decide) (by decide))
set_option maxRecDepth 100000 in
theorem finish_anyG (O:Nat → Prop) (b P f:Nat) (c1 c2 c3 c4 raw c7 c8 c9 c10 c11 c12 tk:Value) (l:List UInt8) (ts:List Value) (w:World)
    (hb:Blk w b 80 #[.int .i64 (P:Nat),c1,c2,c3,c4,.int .i64 (f:Nat),raw,c7,c8,c9,c10,c11,c12,tk]) (hOb:O b) (hr:Row O w raw l) (ht:TRowG O w tk ts)
    (hq:wrongP l = none) (hl:l.length ≤ 100000000) (hf:f ≤ P) (hP:P ≤ 100000000) (hts:ts.length ≤ 100000000) :
    Calls Tryz.prog 34 #[.pointer (some ⟨b,0,none⟩)] w fun e w' =>
      (∀ x,flP l = some x → e = .returned (.bool true) ∧ (∃ tk',Blk w' b 80 #[.int .i64 (P:Nat),c1,c2,fOut,.bool false,.int .i64 (f:Nat),raw,c7,c8,c9,c10,c11,c12,tk'] ∧ TRowG (up O w) w' tk' (ts ++ [tokV ⟨f,P - f,.num x⟩])) ∧ Fr (fun k=>k = b ∨ tk.ownBlock = some k) w w') ∧
      (flP l = none → e = .returned (.bool false) ∧ Below w.heap.size w w'):=by
  have HB:=Lib.hid (fun W=>bits_ok l W (by omega) hq)
  obtain ⟨A,cp,rfl,_⟩:=own_shape hr.1
  have hstr:=str_of_RB (RB.of_own hr.1) cp
  have k6:=hb.cell 6
  simp at k6
  have HSP:=Lib.hid (fun W (h:Blk W b 80 #[.int .i64 (P:Nat),c1,c2,c3,c4,.int .i64 (f:Nat),.slice A l.length cp,c7,c8,c9,c10,c11,c12,tk])=>span_any b _ _ _ _ _ _ _ _ _ _ _ _ _ f P W h hf (by omega))
  have HT:=Lib.hid (fun W ty u (h:Blk W b 80 #[.int .i64 (P:Nat),c1,c2,c3,c4,.int .i64 (f:Nat),.slice A l.length cp,c7,c8,c9,c10,c11,c12,tk]) (h2:TRowG O W tk ts)=>tell_anyG O b _ _ _ _ _ _ _ _ _ _ _ _ _ tk ty u ts W h hOb h2 (by omega))
  have HR:=Lib.hid hr
  have HTR:=Lib.hid ht
  have HBK:=Lib.hid hb
  clear hr ht hb
  have hfl:flP l = roundP (bareP l) 1:=rfl
  rw [← hfl] at HB
  generalize flP l = o at *
  clear hfl
  cases o with
  | none =>
    rw [roundV_none] at HB
    go_enter Tryz.func34,Tryz.ntmps34
    go_wp2_with fail
    refine (HB.out _).mono ?_
    rintro e w1 ⟨rfl,hbe⟩
    go_wp2_with fail
    go_ret
    exact ⟨fun x h=>(by cases h),fun _=>⟨rfl,hbe⟩⟩
  | some x =>
    rw [roundV_some] at HB
    go_enter Tryz.func34,Tryz.ntmps34
    go_wp2_with fail
    refine (HB.out _).mono ?_
    rintro e w1 ⟨rfl,hbe⟩
    have hb1:=HBK.out.below hbe HBK.out.lt
    have k0:=hb1.cell 0
    simp at k0
    have HB1:=Lib.hid hb1
    clear hb1
    go_wp2_with fail
    refine (HSP.out _ HB1.out).mono ?_
    rintro e w2 ⟨rfl,hbe2⟩
    have HB2:=Lib.hid (keepb hbe hbe2)
    have HT2:=Lib.hid (HTR.out.keep (fun k hk=>HB2.out.block k (town_lt HTR.out.1 k hk)))
    have HK2:=Lib.hid (HB1.out.below hbe2 HB1.out.lt)
    clear hbe hbe2 k0 HB1
    go_wp2_with fail
    refine (HT.out _ _ _ HK2.out HT2.out).mono ?_
    rintro e w3 ⟨rfl,⟨tk',g1,g2⟩,g3⟩
    go_wp2_with fail
    go_ret
    refine ⟨fun y hy=>?_,fun h=>by cases h⟩
    injection hy with hy
    subst hy
    refine ⟨rfl,⟨tk',g1,g2.mono (fun k hk=>?_)⟩,(Fr.of_below HB2.out).trans g3⟩
    rcases hk with hk | hk
    · exact .inl hk
    · exact .inr (by have:=HB2.out.size;omega)
end Go.Proofs.YtgmholdkdppbmaaGreatDoor.Lx

namespace Go.Proofs.YtgmholdkdppbmaaGreatDoor.Lx
open Go.RowKit
theorem TRow.set {O:Nat → Prop} {w:World} {v:Value} {l:List Value} {b:Nat} {cs:Array Value} (h:TRow O w v l) (hb:Blk w b 80 cs) (i:Nat) (u:Value):TRow O (w.setCell ⟨b,i,none⟩ u) v l :=
  ⟨ownsRow_setCell_other h.1 (own_apart h.1 hb (by decide)) u,h.2⟩
theorem Row.set {O:Nat → Prop} {w:World} {v:Value} {l:List UInt8} {b:Nat} {cs:Array Value} (h:Row O w v l) (hb:Blk w b 80 cs) (i:Nat) (u:Value):Row O (w.setCell ⟨b,i,none⟩ u) v l :=
  ⟨ownsRow_setCell_other h.1 (own_apart h.1 hb (by decide)) u,h.2⟩
def wBeg (w:World) (b P:Nat):World:=(((w.setCell ⟨b,4,none⟩ (.bool true)).setCell ⟨b,5,none⟩ (.int .i64 (P:Nat))).setCell ⟨b,6,none⟩ (.slice none 0 0)).setCell ⟨b,7,none⟩ (.int .i64 0)
theorem wBeg_blk {w:World} {b P:Nat} {c0 c1 c2 c3 c4 c5 c6 c7 c8 c9 c10 c11 c12 c13:Value} (hb:Blk w b 80 #[c0,c1,c2,c3,c4,c5,c6,c7,c8,c9,c10,c11,c12,c13]) :
    Blk (wBeg w b P) b 80 #[c0,c1,c2,c3,.bool true,.int .i64 (P:Nat),.slice none 0 0,.int .i64 0,c8,c9,c10,c11,c12,c13]:=by
  have:=(((hb.set1 4 (.bool true)).set1 5 (.int .i64 (P:Nat))).set1 6 (.slice none 0 0)).set1 7 (.int .i64 0)
  unfold wBeg
  simpa using this
theorem wBeg_fr {O:Nat → Prop} {w:World} {b P:Nat} (hO:O b):Fr O w (wBeg w b P) :=
  (((((Fr.refl O w).setCell (p:=⟨b,4,none⟩) hO _).setCell (p:=⟨b,5,none⟩) hO _).setCell (p:=⟨b,6,none⟩) hO _).setCell (p:=⟨b,7,none⟩) hO _)
theorem wBeg_size {w:World} {b P:Nat}:(wBeg w b P).heap.size = w.heap.size:=by simp [wBeg,World.setCell]
theorem told {O:Nat → Prop} {w W w':World} {b P:Nat} {er dn fr raw nm ch sy dg cd hg tk':Value} {ts:List Tok} {t:Tok} (h1:O b) (h3:ts.length ≤ 2 * P) (hP:P < 16777216)
    (g1:Blk w' b 80 #[.int .i64 (P:Nat),er,dn,fOut,.bool false,fr,raw,nm,ch,sy,dg,cd,hg,tk']) (g2:TRow (up O W) w' tk' (ts.map tokV ++ [tokV t])) (hW:w.heap.size ≤ W.heap.size) (hf:Fr O w w') :
    StP O w b P er dn ts (.go .out [t]) (.returned (.int .i64 0)) w':=by
  refine ⟨rfl,⟨.inl h1,by omega,by simp;omega,trivial,_,_,_,_,_,_,_,_,_,_,_,g1,⟨rfl,rfl⟩,?_⟩,hf⟩
  rw [List.map_append]
  exact g2.mono (fun k hk=>by
    rcases hk with hk | hk
    · exact .inl hk
    · exact .inr (by omega))
end Go.Proofs.YtgmholdkdppbmaaGreatDoor.Lx
