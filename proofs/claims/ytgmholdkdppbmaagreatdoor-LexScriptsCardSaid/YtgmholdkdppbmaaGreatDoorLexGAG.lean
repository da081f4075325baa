/-
  Texts of the proof of 'LexG': LgD, LexE, LgE, LexF, LgF, LexG, LgG, LexH, LexI, LgI, LexJ, LgK, LexL, LgL, LexN, LgN, LexO, LgO, LexU.
-/
import Derived.Test.YtgmholdkdppbmaaGreatDoorLexGAE
import Derived.Test.YtgmholdkdppbmaaGreatDoorLexGAF
set_option linter.unusedVariables false
set_option linter.unusedSimpArgs false
namespace Go.Proofs.YtgmholdkdppbmaaGreatDoor.Lx
open Go.RowKit
theorem TRowG.set {O:Nat → Prop} {w:World} {v:Value} {l:List Value} {b:Nat} {cs:Array Value} (h:TRowG O w v l) (hb:Blk w b 80 cs) (i:Nat) (u:Value):TRowG O (w.setCell ⟨b,i,none⟩ u) v l :=
  ⟨town_keep h.1 (fun k hk=>Below.heap_setCell _ _ _ k (fun e=>town_apart h.1 hb (by decide) (by rw [hk,e]))),h.2⟩
theorem wBeg_trowG {O:Nat → Prop} {w:World} {b P:Nat} {v:Value} {l:List Value} {cs:Array Value} (h:TRowG O w v l) (hb:Blk w b 80 cs):TRowG O (wBeg w b P) v l:=by
  have h1:=h.set hb 4 (.bool true)
  have b1:=hb.set1 4 (.bool true)
  have h2:=h1.set b1 5 (.int .i64 (P:Nat))
  have b2:=b1.set1 5 (.int .i64 (P:Nat))
  have h3:=h2.set b2 6 (.slice none 0 0)
  have b3:=b2.set1 6 (.slice none 0 0)
  exact h3.set b3 7 (.int .i64 0)
theorem toldG {O:Nat → Prop} {w W w':World} {b P:Nat} {er dn fr raw nm ch sy dg cd hg tk':Value} {ts:List Tok} {t:Tok} (h1:O b) (h3:ts.length ≤ 2 * P) (hP:P < 16777216)
    (g1:Blk w' b 80 #[.int .i64 (P:Nat),er,dn,fOut,.bool false,fr,raw,nm,ch,sy,dg,cd,hg,tk']) (g2:TRowG (up O W) w' tk' (ts.map tokV ++ [tokV t])) (hW:w.heap.size ≤ W.heap.size) (hf:Fr O w w') :
    StPG O w b P er dn ts (.go .out [t]) (.returned (.int .i64 0)) w':=by
  refine ⟨rfl,⟨.inl h1,by omega,by simp;omega,trivial,_,_,_,_,_,_,_,_,_,_,_,g1,⟨rfl,rfl⟩,?_⟩,hf⟩
  rw [List.map_append]
  exact g2.mono (fun k hk=>by
    rcases hk with hk | hk
    · exact .inl hk
    · exact .inr (by omega))
set_option maxRecDepth 100000 in
theorem outside_blankG (O:Nat → Prop) (b P:Nat) (er dn:Value) (ts:List Tok) (c:UInt8) (w:World) (h:LxMG O w b P P er dn .out ts) (hP:P < 16777216) (hc:blankB c = true) :
    Calls Tryz.prog 36 #[.pointer (some ⟨b,0,none⟩),.int .u8 (c.toNat:Int)] w (StPG O w b P er dn ts (.go .out [])):=by
  have HB:=Lib.hid (fun W=>blank_any c W)
  rw [hc] at HB
  have HL:=Lib.hid h
  clear h
  go_enter Tryz.func36,Tryz.ntmps36
  go_wp2_with fail
  refine (HB.out _).mono ?_
  rintro e w' ⟨rfl,rfl⟩
  go_wp2_with fail
  go_ret
  obtain ⟨h1,h2,h3,h4,st,inn,fr,raw,nm,ch,sy,dg,cd,hg,tk,h5,h6,h7⟩:=HL.out
  exact ⟨rfl,⟨.inl h1,by omega,by simp;omega,trivial,st,inn,fr,raw,nm,ch,sy,dg,cd,hg,tk,h5,h6.mono up_of (by omega),by simpa using h7.mono up_of⟩,Fr.refl _ _⟩
set_option maxRecDepth 100000 in
theorem outside_markG (O:Nat → Prop) (b P:Nat) (er dn:Value) (ts:List Tok) (c:UInt8) (w:World) (h:LxMG O w b P P er dn .out ts) (hP:P < 16777216) (hc:markB c = true) :
    Calls Tryz.prog 36 #[.pointer (some ⟨b,0,none⟩),.int .u8 (c.toNat:Int)] w (StPG O w b P er dn ts (.go .out [⟨P,1,.mark c⟩])):=by
  have HB:=Lib.hid (fun W=>blank_any c W)
  rw [mark_not hc] at HB
  obtain ⟨h1,h2,h3,h4,st,inn,fr,raw,nm,ch,sy,dg,cd,hg,tk,h5,h6,h7⟩:=h
  obtain ⟨rfl,rfl⟩:=h6
  have hsp:Hid (∀ W,Below (wBeg w b P).heap.size (wBeg w b P) W → Calls Tryz.prog 48 #[.pointer (some ⟨b,0,none⟩),.int .i64 ((P + 1:Nat):Int)] W fun e w'=>e = .returned (.agg #[.int .i64 (P:Nat),.int .i64 1]) ∧ Below W.heap.size W w'):=Lib.hid (fun W hW=>by
    have:=span_any b _ _ _ _ _ _ _ _ _ _ _ _ _ P (P + 1) W ((wBeg_blk (P:=P) h5).below hW (wBeg_blk (P:=P) h5).lt) (by omega) (by omega)
    rw [show P + 1 - P = 1 by omega] at this
    exact this)
  have HT:=Lib.hid (fun W u (hW:Below (wBeg w b P).heap.size (wBeg w b P) W)=>tell_anyG O b _ _ _ _ _ _ _ _ _ _ _ _ _ tk 83 u (ts.map tokV) W ((wBeg_blk (P:=P) h5).below hW (wBeg_blk (P:=P) h5).lt) h1 ((wBeg_trowG (P:=P) h7 h5).keep (fun k hk=>hW.block k (town_lt (wBeg_trowG (P:=P) h7 h5).1 k hk))) (by rw [List.length_map];omega))
  have HF:=Lib.hid (wBeg_fr (w:=w) (P:=P) h1)
  have HH:=Lib.hid (And.intro h1 (show ts.length ≤ 2 * P from h3))
  have HSZ:=Lib.hid (wBeg_size (w:=w) (b:=b) (P:=P))
  have hO7:=Lib.hid h7.2
  have k0:=h5.cell 0
  have k4:=h5.cell 4
  have k5:=h5.cell 5
  have k6:=h5.cell 6
  have k7:=h5.cell 7
  have f4:=h5.frozen 4
  have f5:=h5.frozen 5
  have f6:=h5.frozen 6
  have f7:=h5.frozen 7
  simp at k0 k4 k5 k6 k7
  have k0':=(wBeg_blk (P:=P) h5).cell 0
  simp at k0'
  obtain ⟨P1,hP1⟩:∃ P1,P + 1 = P1:=⟨_,rfl⟩
  have hsum:(P:Int) + 1 = ((P1:Nat):Int):=by omega
  have hP1b:P1 ≤ 16777217:=by omega
  rw [hP1] at hsp
  have HP1:=Lib.hid hP1
  clear hP1 h1 h2 h3 h4 h5 h7
  have key:∀ d:Nat,c.toNat = d → (d = 123 ∨ d = 125 ∨ d = 91 ∨ d = 93 ∨ d = 58 ∨ d = 44) → 
    Calls Tryz.prog 36 #[.pointer (some ⟨b,0,none⟩),.int .u8 (d:Int)] w (StPG O w b P er dn ts (.go .out [⟨P,1,.mark c⟩])):=by
    intro d hd hds
    rw [hd] at HB
    have HDD:=Lib.hid hd
    clear hd
    rcases hds with rfl | rfl | rfl | rfl | rfl | rfl <;>
    ( go_enter Tryz.func36,Tryz.ntmps36
      go_wp2_with fail
      refine (HB.out _).mono ?_
      rintro e w' ⟨rfl,rfl⟩
      go_wp2_with fail
      refine (hsp.out _ (Below.refl _ _)).mono ?_
      rintro e w1 ⟨rfl,hb1⟩
      go_wp2_with fail
      refine (HT.out _ _ hb1).mono ?_
      rintro e w2 ⟨rfl,⟨tk',g1,g2⟩,g3⟩
      go_wp2_with fail
      go_ret
      refine toldG HH.out.1 HH.out.2 hP g1 (W:=w1) ?_ ?_ ?_
      · have e1:tokV ⟨P,1,.mark c⟩ = .iface 83 (.agg #[.int .i64 (P:Nat),.int .i64 ((1:Nat):Int),.int .u8 (c.toNat:Int)]):=rfl
        rw [e1,HDD.out]
        exact g2
      · have:=hb1.size
        have:=HSZ.out
        omega
      · exact (HF.out.below hb1).trans (g3.mono (fun k _ hk=>by
          rcases hk with rfl | hk
          · exact HH.out.1
          · exact hO7 k hk)) )
  have hm:c.toNat = 123 ∨ c.toNat = 125 ∨ c.toNat = 91 ∨ c.toNat = 93 ∨ c.toNat = 58 ∨ c.toNat = 44:=by
    unfold markB at hc
    simp at hc
    rcases hc with ((((rfl | rfl) | rfl) | rfl) | rfl) | rfl <;> decide
  exact key c.toNat rfl hm
end Go.Proofs.YtgmholdkdppbmaaGreatDoor.Lx

namespace Go.Proofs.YtgmholdkdppbmaaGreatDoor.Lx
open Go.RowKit
theorem set_far {w:World} {b i k:Nat} {u:Value} (hk:k ≠ b):(w.setCell ⟨b,i,none⟩ u).heap[k]? = w.heap[k]?:=Below.heap_setCell _ _ _ k hk
end Go.Proofs.YtgmholdkdppbmaaGreatDoor.Lx

namespace Go.Proofs.YtgmholdkdppbmaaGreatDoor.Lx
open Go.RowKit
set_option maxRecDepth 100000 in
theorem outside_quoteG (O:Nat → Prop) (b P:Nat) (er dn:Value) (ts:List Tok) (c:UInt8) (w:World) (h:LxMG O w b P P er dn .out ts) (hP:P < 16777216) (hc:c = 34) :
    Calls Tryz.prog 36 #[.pointer (some ⟨b,0,none⟩),.int .u8 (c.toNat:Int)] w (StPG O w b P er dn ts (.go (.txt P [] []) [])):=by
  subst hc
  have HB:=Lib.hid (fun W=>blank_any 34 W)
  rw [show blankB 34 = false by decide,show (((34:UInt8).toNat:Nat):Int) = 34 from rfl] at HB
  rw [show (((34:UInt8).toNat:Nat):Int) = 34 from rfl]
  obtain ⟨h1,h2,h3,h4,st,inn,fr,raw,nm,ch,sy,dg,cd,hg,tk,h5,h6,h7⟩:=h
  obtain ⟨rfl,rfl⟩:=h6
  have HF:=Lib.hid (wBeg_fr (w:=w) (P:=P) h1)
  have HH:=Lib.hid (And.intro h1 (show ts.length ≤ 2 * P from h3))
  have HSZ:=Lib.hid (wBeg_size (w:=w) (b:=b) (P:=P))
  have HBB:=Lib.hid (wBeg_blk (P:=P) h5)
  have HTT:=Lib.hid (wBeg_trowG (P:=P) h7 h5)
  have k0:=h5.cell 0
  have k3:=h5.cell 3
  have k4:=h5.cell 4
  have k5:=h5.cell 5
  have k6:=h5.cell 6
  have k7:=h5.cell 7
  have f3:=h5.frozen 3
  have f4:=h5.frozen 4
  have f5:=h5.frozen 5
  have f6:=h5.frozen 6
  have f7:=h5.frozen 7
  simp at k0 k3 k4 k5 k6 k7
  have k8:=h5.cell 8
  have k9:=h5.cell 9
  have k10:=h5.cell 10
  have k11:=h5.cell 11
  have k12:=h5.cell 12
  have f8:=h5.frozen 8
  have f9:=h5.frozen 9
  have f10:=h5.frozen 10
  have f11:=h5.frozen 11
  have f12:=h5.frozen 12
  simp at k8 k9 k10 k11 k12
  clear h1 h2 h3 h4 h5 h7
  go_enter Tryz.func36,Tryz.ntmps36
  go_wp2_with fail
  refine (HB.out _).mono ?_
  rintro e w' ⟨rfl,rfl⟩
  go_wp2_with fail
  refine (new_any _).mono ?_
  rintro e w1 ⟨rfl,hfb,hb1⟩
  have hb2:=HBB.out.below hb1 HBB.out.lt
  have HB2:=Lib.hid hb2
  have k8:=hb2.cell 8
  have k9:=hb2.cell 9
  have k10:=hb2.cell 10
  have k11:=hb2.cell 11
  have k12:=hb2.cell 12
  have k3:=hb2.cell 3
  have f3:=hb2.frozen 3
  have f8:=hb2.frozen 8
  have f9:=hb2.frozen 9
  have f10:=hb2.frozen 10
  have f11:=hb2.frozen 11
  have f12:=hb2.frozen 12
  simp at k3 k8 k9 k10 k11 k12
  have HFB:=Lib.hid hfb
  have HB1:=Lib.hid hb1
  clear hfb hb1 hb2
  go_wp2_with fail
  go_ret
  obtain ⟨W,hW⟩:∃ W,((((((w1.setCell ⟨b,8,none⟩ (.pointer (some ⟨w.heap.size,0,none⟩))).setCell ⟨b,9,none⟩ (.slice none 0 0)).setCell ⟨b,10,none⟩ (.int .i64 0)).setCell ⟨b,11,none⟩ (.int .i32 0)).setCell ⟨b,12,none⟩ (.int .i32 0)).setCell ⟨b,3,none⟩ fWit) = W:=⟨_,rfl⟩
  have hbl:=(((((HB2.out.set1 8 (.pointer (some ⟨w.heap.size,0,none⟩))).set1 9 (.slice none 0 0)).set1 10 (.int .i64 0)).set1 11 (.int .i32 0)).set1 12 (.int .i32 0)).set1 3 fWit
  have he:∀ k,k ≠ b → W.heap[k]? = w1.heap[k]?:=fun k hk=>by rw [← hW];simp only [set_far hk]
  have hf1:Fr O w w1:=HF.out.below HB1.out
  have hf2:Fr O w W:=by rw [← hW];exact (((((hf1.setCell (p:=⟨b,8,none⟩) HH.out.1 _).setCell (p:=⟨b,9,none⟩) HH.out.1 _).setCell (p:=⟨b,10,none⟩) HH.out.1 _).setCell (p:=⟨b,11,none⟩) HH.out.1 _).setCell (p:=⟨b,12,none⟩) HH.out.1 _).setCell (p:=⟨b,3,none⟩) HH.out.1 _
  rw [hW] at hbl ⊢
  simp at hbl
  have hsz:=HSZ.out
  have hbg:w.heap.size ≠ b:=by
    obtain ⟨hs,_,_,_,hx⟩:=HFB.out
    rw [← hsz]
    exact Blk.apart hx HB2.out (by decide)
  have htk:TRowG O W tk (ts.map tokV):=HTT.out.keep (fun k hk=>(he k (fun e=>town_apart HTT.out.1 HBB.out (by decide) (by rw [hk,e]))).trans (HB1.out.block k (town_lt HTT.out.1 k hk)))
  refine ⟨rfl,⟨.inl HH.out.1,by omega,by have:=HH.out.2;simp;omega,⟨by omega,by simp,trivial⟩,_,_,_,_,_,_,_,_,_,_,_,hbl,⟨rfl,rfl,rfl,rfl,Row.nil _ _,⟨w.heap.size,fini,rfl,?_,rfl,rfl,Nat.zero_le _,trivial,.inr (Nat.le_refl _)⟩,rfl⟩,by simpa using htk.mono up_of⟩,hf2⟩
  have this:FB w1 (wBeg w b P).heap.size fini:=HFB.out
  rw [hsz] at this
  exact FB.keep this (he _ hbg)
set_option maxRecDepth 100000 in
theorem outside_numG (O:Nat → Prop) (b P:Nat) (er dn:Value) (ts:List Tok) (c:UInt8) (w:World) (h:LxMG O w b P P er dn .out ts) (hP:P < 16777216) (hc:c = 45 ∨ isD c = true) :
    Calls Tryz.prog 36 #[.pointer (some ⟨b,0,none⟩),.int .u8 (c.toNat:Int)] w (StPG O w b P er dn ts (.go (.num P ((nxt 0 c).getD 0) [c]) [])):=by
  obtain ⟨s',hs'⟩:∃ s',nxt 0 c = some s':=by
    rcases hc with rfl | h
    · exact ⟨1,by decide⟩
    · by_cases h48:c = 48
      · subst h48;exact ⟨2,by decide⟩
      · have h45:¬ c = 45:=by rintro rfl;revert h;decide
        exact ⟨3,by simp [nxt,h48,h,h45]⟩
  have hok:outS P c = .go (.num P ((nxt 0 c).getD 0) [c]) []:=by
    have hbb:blankB c = false ∧ markB c = false ∧ c ≠ 34:=by
      rcases hc with rfl | h
      · decide
      · unfold isD at h
        have h:=of_decide_eq_true h
        have hne:∀ d:UInt8,d.toNat < 48 ∨ 57 < d.toNat → (c == d) = false:=fun d hd=>by
          rw [beq_eq_false_iff_ne]
          rintro rfl
          omega
        refine ⟨?_,?_,?_⟩
        · unfold blankB
          rw [hne 32 (by decide),hne 9 (by decide),hne 10 (by decide),hne 13 (by decide)];rfl
        · unfold markB
          rw [hne 123 (by decide),hne 125 (by decide),hne 91 (by decide),hne 93 (by decide),hne 58 (by decide),hne 44 (by decide)];rfl
        · have:=hne 34 (by decide)
          simpa using this
    unfold outS
    rw [if_neg (by rw [hbb.1];decide),if_neg (by rw [hbb.2.1];decide),if_neg hbb.2.2,if_pos hc]
  have HOK:=Lib.hid (outS_ok hok).1
  have HB:=Lib.hid (fun W=>blank_any c W)
  have hbl0:blankB c = false:=by
    have:=hok
    unfold outS at this
    split at this
    · cases this
    · rename_i hh;simpa using hh
  rw [hbl0] at HB
  rw [hs',Option.getD_some] at HOK ⊢
  have HN:=Lib.hid (fun O' W c0 c1 c2 c3 c4 c5 c8 c9 c10 c11 c12 c13 hb=>numeral_on O' b c0 c1 c2 c3 c4 c5 c8 c9 c10 c11 c12 c13 (.slice none 0 0) 0 s' c [] W hb (Row.nil O' W) (by decide) hs' (by decide))
  have hC:(c.toNat = 45 ∨ (48 ≤ c.toNat ∧ c.toNat ≤ 57)):=by
    rcases hc with rfl | h
    · exact .inl rfl
    · exact .inr (of_decide_eq_true h)
  obtain ⟨h1,h2,h3,h4,st,inn,fr,raw,nm,ch,sy,dg,cd,hg,tk,h5,h6,h7⟩:=h
  obtain ⟨rfl,rfl⟩:=h6
  have HF:=Lib.hid (wBeg_fr (w:=w) (P:=P) h1)
  have HH:=Lib.hid (And.intro h1 (show ts.length ≤ 2 * P from h3))
  have HSZ:=Lib.hid (wBeg_size (w:=w) (b:=b) (P:=P))
  have HBB:=Lib.hid (wBeg_blk (P:=P) h5)
  have HTT:=Lib.hid (wBeg_trowG (P:=P) h7 h5)
  have k0:=h5.cell 0
  have k3:=h5.cell 3
  have k4:=h5.cell 4
  have k5:=h5.cell 5
  have k6:=h5.cell 6
  have k7:=h5.cell 7
  have f3:=h5.frozen 3
  have f4:=h5.frozen 4
  have f5:=h5.frozen 5
  have f6:=h5.frozen 6
  have f7:=h5.frozen 7
  simp at k0 k3 k4 k5 k6 k7
  clear h1 h2 h3 h4 h5 h7
  generalize c.toNat = C at *
  have t1:((C:Int) == 123) = false:=by rw [beq_eq_false_iff_ne];omega
  have t2:((C:Int) == 125) = false:=by rw [beq_eq_false_iff_ne];omega
  have t3:((C:Int) == 91) = false:=by rw [beq_eq_false_iff_ne];omega
  have t4:((C:Int) == 93) = false:=by rw [beq_eq_false_iff_ne];omega
  have t5:((C:Int) == 58) = false:=by rw [beq_eq_false_iff_ne];omega
  have t6:((C:Int) == 44) = false:=by rw [beq_eq_false_iff_ne];omega
  have t7:((C:Int) == 34) = false:=by rw [beq_eq_false_iff_ne];omega
  have t8:(((C:Int) == 45) = true) ∨ (((C:Int) == 45) = false ∧ decide (48 ≤ (C:Int)) = true ∧ decide ((C:Int) ≤ 57) = true):=by
    rcases hC with h | h
    · left;rw [beq_iff_eq];omega
    · right
      refine ⟨by rw [beq_eq_false_iff_ne];omega,by rw [decide_eq_true_iff];omega,by rw [decide_eq_true_iff];omega⟩
  clear hC hc
  rcases t8 with t8 | ⟨t8,t9,t10⟩ <;>
  ( go_enter Tryz.func36,Tryz.ntmps36
    go_wp2_with fail
    refine (HB.out _).mono ?_
    rintro e w' ⟨rfl,rfl⟩
    go_wp2_with fail
    have hb3:=HBB.out.set1 3 fNum
    simp at hb3
    refine (HN.out O _ _ _ _ _ _ _ _ _ _ _ _ _ hb3).mono ?_
    rintro e w1 ⟨rfl,⟨raw',g1,g2⟩,g3⟩
    go_wp2_with fail
    go_ret
    have hf2:Fr O w w1:=(HF.out.setCell (p:=⟨b,3,none⟩) HH.out.1 _).trans (g3.mono (fun k _ hk=>by
      rcases hk with rfl | hk
      · exact HH.out.1
      · simp [Value.ownBlock] at hk))
    have ht3:=HTT.out.set HBB.out 3 fNum
    refine ⟨rfl,⟨.inl HH.out.1,by omega,by have:=HH.out.2;simp;omega,HOK.out,_,_,_,_,_,_,_,_,_,_,_,g1,⟨rfl,rfl,rfl,rfl,g2.mono (fun k hk=>?_)⟩,?_⟩,hf2⟩
    · rcases hk with hk | hk
      · exact .inl hk
      · exact .inr (by have:=HSZ.out;simp at hk;omega)
    · have:=ht3.keep (w':=w1) (fun k hk=>g3.block k (town_lt ht3.1 k hk) (by
        rintro (rfl | h)
        · exact town_apart ht3.1 hb3 (by decide) hk
        · simp [Value.ownBlock] at h))
      simpa using this.mono up_of )
set_option maxRecDepth 100000 in
theorem outside_wordG (O:Nat → Prop) (b P:Nat) (er dn:Value) (ts:List Tok) (c:UInt8) (w:World) (h:LxMG O w b P P er dn .out ts) (hP:P < 16777216) (hc:wordOf c ≠ []) :
    Calls Tryz.prog 36 #[.pointer (some ⟨b,0,none⟩),.int .u8 (c.toNat:Int)] w (StPG O w b P er dn ts (.go (.word P [c]) [])):=by
  obtain ⟨hbl0,hm0,h34,h45,hdd,W0,hW0,hW1⟩:=word_not hc
  have hok:outS P c = .go (.word P [c]) []:=by
    unfold outS
    rw [if_neg (by rw [hbl0];decide),if_neg (by rw [hm0];decide),if_neg h34,if_neg (by rw [hdd];simp [h45]),if_pos hc]
  have HOK:=Lib.hid (outS_ok hok).1
  have HB:=Lib.hid (fun W=>blank_any c W)
  rw [hbl0] at HB
  have hC:(c.toNat = 110 ∧ wordOf c = [110,117,108,108]) ∨ (c.toNat = 116 ∧ wordOf c = [116,114,117,101]) ∨ (c.toNat = 102 ∧ wordOf c = [102,97,108,115,101]):=by
    unfold wordOf at hc
    split at hc
    · rename_i h;subst h;exact .inl ⟨by decide,by decide⟩
    split at hc
    · rename_i h;subst h;exact .inr (.inl ⟨by decide,by decide⟩)
    split at hc
    · rename_i h;subst h;exact .inr (.inr ⟨by decide,by decide⟩)
    · exact absurd rfl hc
  have HW:=Lib.hid (fun W=>word_any c W)
  obtain ⟨h1,h2,h3,h4,st,inn,fr,raw,nm,ch,sy,dg,cd,hg,tk,h5,h6,h7⟩:=h
  obtain ⟨rfl,rfl⟩:=h6
  have HF:=Lib.hid (wBeg_fr (w:=w) (P:=P) h1)
  have HH:=Lib.hid (And.intro h1 (show ts.length ≤ 2 * P from h3))
  have HSZ:=Lib.hid (wBeg_size (w:=w) (b:=b) (P:=P))
  have HBB:=Lib.hid (wBeg_blk (P:=P) h5)
  have HTT:=Lib.hid (wBeg_trowG (P:=P) h7 h5)
  have k0:=h5.cell 0
  have k3:=h5.cell 3
  have k4:=h5.cell 4
  have k5:=h5.cell 5
  have k6:=h5.cell 6
  have k7:=h5.cell 7
  have f3:=h5.frozen 3
  have f4:=h5.frozen 4
  have f5:=h5.frozen 5
  have f6:=h5.frozen 6
  have f7:=h5.frozen 7
  simp at k0 k3 k4 k5 k6 k7
  clear h1 h2 h3 h4 h5 h7
  have hcl:((wBeg w b P).alloc (.cells #[bv c] 5)).cell? ⟨w.heap.size,0,none⟩ = some (bv c):=by
    have:=(Blk.new (wBeg w b P) 5 #[bv c]).cell 0
    rw [HSZ.out] at this
    simpa using this
  have hbn:=below_new (wBeg w b P) (.cells #[bv c] 5)
  have hRN:=Lib.hid (Row.nil O (wBeg w b P))
  have hon:((wBeg w b P).alloc (.cells #[bv c] 5)).ownsRow 0 5 1 (.slice none 0 0) 0 (([]:List UInt8).map bv):=World.ownsRow_nil _ 0 5 1
  clear hc hbl0 hm0 h34 h45 hdd hW0 hok
  generalize hcs:Value.slice none 0 0 = NIL at hon
  rcases hC with hC | hC
  · obtain ⟨hC1,hC2⟩:=hC
    rw [hC1,hC2] at HW
    rw [hC1] at HB ⊢
    have hcv:Obj.cells #[bv c] 5 = .cells #[.int .u8 110] 5:=by
      show Obj.cells #[Value.int .u8 ((c.toNat:Nat):Int)] _ = _
      rw [hC1];rfl
    rw [hcv] at hcl hbn hon
    subst hcs
    have HCL:=Lib.hid hcl
    have HBN:=Lib.hid hbn
    have HON:=Lib.hid hon
    clear hcl hbn hon hcv hC1 hC2
    go_enter Tryz.func36,Tryz.ntmps36
    go_wp2_with fail
    refine (HB.out _).mono ?_
    rintro e w' ⟨rfl,rfl⟩
    go_wp2_with fail
    refine (HW.out _).mono ?_
    rintro e w' ⟨rfl,rfl⟩
    go_wp2_with (at_builtin;refine wpList_push rfl (.tmp 94) (.tmp 96) rfl 0 (.slice none 0 0) 0 [] rfl HON.out _ _ rfl c HCL.out (by decide) (Nat.zero_le _) ?_;intro g cap w1 hown1 hg1 hat1 hlt1;obtain ⟨hbw,hpk⟩:=push_pack HBN.out HBB.out hRN.out rfl (l2:=[c]) rfl hown1 hg1 hat1;have HPK:=Lib.hid hpk;have HBW:=Lib.hid hbw;have f6:=hbw.frozen 6;have k6':=hbw.cell 6;have f3:=hbw.frozen 3;have k3':=hbw.cell 3;simp at k6' k3';clear hpk hbw hown1 hg1 hat1)
    obtain ⟨p1,p2,p3⟩:=HPK.out 6 (.slice (some ⟨g,0,none⟩) (0 + 1) cap)
    simp at p1
    have q1:=p1.set1 3 fLet
    simp at q1
    go_ret
    have p2':=(p2.set p1 3 fLet).mono (O':=up O w) (fun k hk=>by
      rcases hk with hk | hk
      · exact .inl hk
      · exact .inr (by have:=HSZ.out;omega))
    have t1:=(trow_frG p3 HBB.out hRN.out.1 HTT.out).set p1 3 fLet
    refine ⟨rfl,⟨.inl HH.out.1,by omega,by have:=HH.out.2;simp;omega,HOK.out,_,_,_,_,_,_,_,_,_,_,_,q1,⟨rfl,rfl,rfl,rfl,p2'⟩,by simpa using t1.mono up_of⟩,?_⟩
    exact (HF.out.trans (p3.mono (fun k _ hk=>by
      rcases hk with rfl | hk
      · exact HH.out.1
      · simp [Value.ownBlock] at hk))).setCell (p:=⟨b,3,none⟩) HH.out.1 _
  rcases hC with hC | hC
  · obtain ⟨hC1,hC2⟩:=hC
    rw [hC1,hC2] at HW
    rw [hC1] at HB ⊢
    have hcv:Obj.cells #[bv c] 5 = .cells #[.int .u8 116] 5:=by
      show Obj.cells #[Value.int .u8 ((c.toNat:Nat):Int)] _ = _
      rw [hC1];rfl
    rw [hcv] at hcl hbn hon
    subst hcs
    have HCL:=Lib.hid hcl
    have HBN:=Lib.hid hbn
    have HON:=Lib.hid hon
    clear hcl hbn hon hcv hC1 hC2
    go_enter Tryz.func36,Tryz.ntmps36
    go_wp2_with fail
    refine (HB.out _).mono ?_
    rintro e w' ⟨rfl,rfl⟩
    go_wp2_with fail
    refine (HW.out _).mono ?_
    rintro e w' ⟨rfl,rfl⟩
    go_wp2_with (at_builtin;refine wpList_push rfl (.tmp 94) (.tmp 96) rfl 0 (.slice none 0 0) 0 [] rfl HON.out _ _ rfl c HCL.out (by decide) (Nat.zero_le _) ?_;intro g cap w1 hown1 hg1 hat1 hlt1;obtain ⟨hbw,hpk⟩:=push_pack HBN.out HBB.out hRN.out rfl (l2:=[c]) rfl hown1 hg1 hat1;have HPK:=Lib.hid hpk;have HBW:=Lib.hid hbw;have f6:=hbw.frozen 6;have k6':=hbw.cell 6;have f3:=hbw.frozen 3;have k3':=hbw.cell 3;simp at k6' k3';clear hpk hbw hown1 hg1 hat1)
    obtain ⟨p1,p2,p3⟩:=HPK.out 6 (.slice (some ⟨g,0,none⟩) (0 + 1) cap)
    simp at p1
    have q1:=p1.set1 3 fLet
    simp at q1
    go_ret
    have p2':=(p2.set p1 3 fLet).mono (O':=up O w) (fun k hk=>by
      rcases hk with hk | hk
      · exact .inl hk
      · exact .inr (by have:=HSZ.out;omega))
    have t1:=(trow_frG p3 HBB.out hRN.out.1 HTT.out).set p1 3 fLet
    refine ⟨rfl,⟨.inl HH.out.1,by omega,by have:=HH.out.2;simp;omega,HOK.out,_,_,_,_,_,_,_,_,_,_,_,q1,⟨rfl,rfl,rfl,rfl,p2'⟩,by simpa using t1.mono up_of⟩,?_⟩
    exact (HF.out.trans (p3.mono (fun k _ hk=>by
      rcases hk with rfl | hk
      · exact HH.out.1
      · simp [Value.ownBlock] at hk))).setCell (p:=⟨b,3,none⟩) HH.out.1 _
  · obtain ⟨hC1,hC2⟩:=hC
    rw [hC1,hC2] at HW
    rw [hC1] at HB ⊢
    have hcv:Obj.cells #[bv c] 5 = .cells #[.int .u8 102] 5:=by
      show Obj.cells #[Value.int .u8 ((c.toNat:Nat):Int)] _ = _
      rw [hC1];rfl
    rw [hcv] at hcl hbn hon
    subst hcs
    have HCL:=Lib.hid hcl
    have HBN:=Lib.hid hbn
    have HON:=Lib.hid hon
    clear hcl hbn hon hcv hC1 hC2
    go_enter Tryz.func36,Tryz.ntmps36
    go_wp2_with fail
    refine (HB.out _).mono ?_
    rintro e w' ⟨rfl,rfl⟩
    go_wp2_with fail
    refine (HW.out _).mono ?_
    rintro e w' ⟨rfl,rfl⟩
    go_wp2_with (at_builtin;refine wpList_push rfl (.tmp 94) (.tmp 96) rfl 0 (.slice none 0 0) 0 [] rfl HON.out _ _ rfl c HCL.out (by decide) (Nat.zero_le _) ?_;intro g cap w1 hown1 hg1 hat1 hlt1;obtain ⟨hbw,hpk⟩:=push_pack HBN.out HBB.out hRN.out rfl (l2:=[c]) rfl hown1 hg1 hat1;have HPK:=Lib.hid hpk;have HBW:=Lib.hid hbw;have f6:=hbw.frozen 6;have k6':=hbw.cell 6;have f3:=hbw.frozen 3;have k3':=hbw.cell 3;simp at k6' k3';clear hpk hbw hown1 hg1 hat1)
    obtain ⟨p1,p2,p3⟩:=HPK.out 6 (.slice (some ⟨g,0,none⟩) (0 + 1) cap)
    simp at p1
    have q1:=p1.set1 3 fLet
    simp at q1
    go_ret
    have p2':=(p2.set p1 3 fLet).mono (O':=up O w) (fun k hk=>by
      rcases hk with hk | hk
      · exact .inl hk
      · exact .inr (by have:=HSZ.out;omega))
    have t1:=(trow_frG p3 HBB.out hRN.out.1 HTT.out).set p1 3 fLet
    refine ⟨rfl,⟨.inl HH.out.1,by omega,by have:=HH.out.2;simp;omega,HOK.out,_,_,_,_,_,_,_,_,_,_,_,q1,⟨rfl,rfl,rfl,rfl,p2'⟩,by simpa using t1.mono up_of⟩,?_⟩
    exact (HF.out.trans (p3.mono (fun k _ hk=>by
      rcases hk with rfl | hk
      · exact HH.out.1
      · simp [Value.ownBlock] at hk))).setCell (p:=⟨b,3,none⟩) HH.out.1 _
set_option maxRecDepth 100000 in
theorem outside_badG (O:Nat → Prop) (b P:Nat) (er dn:Value) (ts:List Tok) (c:UInt8) (w:World) (h:LxMG O w b P P er dn .out ts) (hP:P < 16777216) (hbl0:blankB c = false) (hm0:markB c = false) (h34:c ≠ 34) (h45:c ≠ 45) (hdd:isD c = false) (hw0:wordOf c = []) :
    Calls Tryz.prog 36 #[.pointer (some ⟨b,0,none⟩),.int .u8 (c.toNat:Int)] w (StPG O w b P er dn ts (.bad 94 P [])):=by
  have HB:=Lib.hid (fun W=>blank_any c W)
  rw [hbl0] at HB
  have HW:=Lib.hid (fun W=>word_any c W)
  rw [hw0] at HW
  have hne:∀ d:UInt8,c ≠ d → ¬ c.toNat = d.toNat:=fun d hd h=>hd (UInt8.toNat_inj.1 h)
  unfold markB at hm0
  simp at hm0
  obtain ⟨⟨⟨⟨⟨m1,m2⟩,m3⟩,m4⟩,m5⟩,m6⟩:=hm0
  have n1:=hne 123 m1
  have n2:=hne 125 m2
  have n3:=hne 91 m3
  have n4:=hne 93 m4
  have n5:=hne 58 m5
  have n6:=hne 44 m6
  have n7:=hne 34 h34
  have n8:=hne 45 h45
  have n9:¬ (48 ≤ c.toNat ∧ c.toNat ≤ 57):=by
    unfold isD at hdd
    exact of_decide_eq_false hdd
  have e1:(123:UInt8).toNat = 123:=rfl
  have e2:(125:UInt8).toNat = 125:=rfl
  have e3:(91:UInt8).toNat = 91:=rfl
  have e4:(93:UInt8).toNat = 93:=rfl
  have e5:(58:UInt8).toNat = 58:=rfl
  have e6:(44:UInt8).toNat = 44:=rfl
  have e7:(34:UInt8).toNat = 34:=rfl
  have e8:(45:UInt8).toNat = 45:=rfl
  rw [e1] at n1
  rw [e2] at n2
  rw [e3] at n3
  rw [e4] at n4
  rw [e5] at n5
  rw [e6] at n6
  rw [e7] at n7
  rw [e8] at n8
  clear e1 e2 e3 e4 e5 e6 e7 e8 m1 m2 m3 m4 m5 m6 hne h34 h45 hdd hw0 hbl0
  obtain ⟨h1,h2,h3,h4,st,inn,fr,raw,nm,ch,sy,dg,cd,hg,tk,h5,h6,h7⟩:=h
  obtain ⟨rfl,rfl⟩:=h6
  have HF:=Lib.hid (wBeg_fr (w:=w) (P:=P) h1)
  have HH:=Lib.hid (And.intro h1 (show ts.length ≤ 2 * P from h3))
  have HSZ:=Lib.hid (wBeg_size (w:=w) (b:=b) (P:=P))
  have HBB:=Lib.hid (wBeg_blk (P:=P) h5)
  have HTT:=Lib.hid (wBeg_trowG (P:=P) h7 h5)
  have k0:=h5.cell 0
  have k3:=h5.cell 3
  have k4:=h5.cell 4
  have k5:=h5.cell 5
  have k6:=h5.cell 6
  have k7:=h5.cell 7
  have f3:=h5.frozen 3
  have f4:=h5.frozen 4
  have f5:=h5.frozen 5
  have f6:=h5.frozen 6
  have f7:=h5.frozen 7
  simp at k0 k3 k4 k5 k6 k7
  clear h1 h2 h3 h4 h5 h7
  generalize c.toNat = C at *
  have t1:((C:Int) == 123) = false:=by rw [beq_eq_false_iff_ne];omega
  have t2:((C:Int) == 125) = false:=by rw [beq_eq_false_iff_ne];omega
  have t3:((C:Int) == 91) = false:=by rw [beq_eq_false_iff_ne];omega
  have t4:((C:Int) == 93) = false:=by rw [beq_eq_false_iff_ne];omega
  have t5:((C:Int) == 58) = false:=by rw [beq_eq_false_iff_ne];omega
  have t6:((C:Int) == 44) = false:=by rw [beq_eq_false_iff_ne];omega
  have t7:((C:Int) == 34) = false:=by rw [beq_eq_false_iff_ne];omega
  have t8:((C:Int) == 45) = false:=by rw [beq_eq_false_iff_ne];omega
  have t9:decide (48 ≤ (C:Int)) = false ∨ (decide (48 ≤ (C:Int)) = true ∧ decide ((C:Int) ≤ 57) = false):=by
    rcases Nat.lt_or_ge C 48 with h | h
    · left;rw [decide_eq_false_iff_not];omega
    · right
      refine ⟨by rw [decide_eq_true_iff];omega,by rw [decide_eq_false_iff_not];omega⟩
  clear n1 n2 n3 n4 n5 n6 n7 n8 n9
  rcases t9 with t9 | ⟨t9,t10⟩ <;>
  ( go_enter Tryz.func36,Tryz.ntmps36
    go_wp2_with fail
    refine (HB.out _).mono ?_
    rintro e w' ⟨rfl,rfl⟩
    go_wp2_with fail
    refine (HW.out _).mono ?_
    rintro e w' ⟨rfl,rfl⟩
    go_wp2_with fail
    go_ret
    exact ⟨rfl,by decide,by decide,⟨.inl HH.out.1,by omega,by have:=HH.out.2;simp;omega,.inr rfl,_,_,_,_,_,_,_,_,_,_,_,HBB.out,fun h=>(by omega),by rw [List.append_nil];exact HTT.out.mono up_of⟩,HF.out⟩ )
theorem outside_anyG (O:Nat → Prop) (b P:Nat) (er dn:Value) (ts:List Tok) (c:UInt8) (w:World) (h:LxMG O w b P P er dn .out ts) (hP:P < 16777216) :
    Calls Tryz.prog 36 #[.pointer (some ⟨b,0,none⟩),.int .u8 (c.toNat:Int)] w (StPG O w b P er dn ts (outS P c)):=by
  unfold outS
  split
  · rename_i hc;exact outside_blankG O b P er dn ts c w h hP hc
  rename_i hb
  split
  · rename_i hc;exact outside_markG O b P er dn ts c w h hP hc
  rename_i hm
  split
  · rename_i hc;exact outside_quoteG O b P er dn ts c w h hP hc
  rename_i hq
  split
  · rename_i hc;exact outside_numG O b P er dn ts c w h hP hc
  rename_i hn
  split
  · rename_i hc;exact outside_wordG O b P er dn ts c w h hP hc
  rename_i hw
  have h45:c ≠ 45:=fun e=>hn (.inl e)
  have hd:isD c = false:=by
    cases hx:isD c with
    | false=>rfl
    | true=>exact absurd (.inr hx) hn
  exact outside_badG O b P er dn ts c w h hP (by simpa using hb) (by simpa using hm) hq h45 hd (Classical.not_not.1 hw)
end Go.Proofs.YtgmholdkdppbmaaGreatDoor.Lx

namespace Go.Proofs.YtgmholdkdppbmaaGreatDoor.Lx
open Go.RowKit
theorem StP.cons {O:Nat → Prop} {w w1 w':World} {b P:Nat} {er dn:Value} {ts:List Tok} {t:Tok} {r:Rs} {e:Ending} (hf:Fr O w w1) (h:StP (up O w) w1 b P er dn (ts ++ [t]) r e w') (hlen:ts.length ≤ 2 * P):StP O w b P er dn ts (r.cons t) e w':=by
  cases r with
  | go m' l =>
    obtain ⟨h1,h2,h3⟩:=h
    refine ⟨h1,?_,h3.up_old hf⟩
    rw [List.append_assoc] at h2
    exact h2.mono (up_up hf.size)
  | bad no q l =>
    obtain ⟨h1,h2,h2',h3,h4⟩:=h
    refine ⟨h1,h2,h2',?_,h4.up_old hf⟩
    rw [List.append_assoc] at h3
    exact h3.mono (up_up hf.size)
end Go.Proofs.YtgmholdkdppbmaaGreatDoor.Lx

namespace Go.Proofs.YtgmholdkdppbmaaGreatDoor.Lx
open Go.RowKit
theorem StPG.cons {O:Nat → Prop} {w w1 w':World} {b P:Nat} {er dn:Value} {ts:List Tok} {t:Tok} {r:Rs} {e:Ending} (hf:Fr O w w1) (h:StPG (up O w) w1 b P er dn (ts ++ [t]) r e w') (hlen:ts.length ≤ 2 * P):StPG O w b P er dn ts (r.cons t) e w':=by
  cases r with
  | go m' l =>
    obtain ⟨h1,h2,h3⟩:=h
    refine ⟨h1,?_,h3.up_old hf⟩
    rw [List.append_assoc] at h2
    exact h2.mono (up_up hf.size)
  | bad no q l =>
    obtain ⟨h1,h2,h2',h3,h4⟩:=h
    refine ⟨h1,h2,h2',?_,h4.up_old hf⟩
    rw [List.append_assoc] at h3
    exact h3.mono (up_up hf.size)
set_option maxRecDepth 100000 in
theorem numeral_anyG (O:Nat → Prop) (b P:Nat) (er dn:Value) (ts:List Tok) (c:UInt8) (fr st:Nat) (raw:List UInt8) (w:World) (h:LxMG O w b P P er dn (.num fr st raw) ts) (hP:P < 16777216) :
    Calls Tryz.prog 52 #[.pointer (some ⟨b,0,none⟩),.int .u8 (c.toNat:Int)] w (StPG O w b P er dn ts (step flP P (.num fr st raw) c)):=by
  cases hn:nxt st c with
  | some st' =>
    have hs:step flP P (.num fr st raw) c = .go (.num fr st' (raw ++ [c])) []:=by simp only [step,hn]
    have hok:=(step_ok h.2.2.2.1 hs).1
    rw [hs]
    obtain ⟨h1,h2,h3,h4,sv,inn,frv,rawv,nm,ch,sy,dg,cd,hg,tk,h5,h6,h7⟩:=h
    obtain ⟨rfl,rfl,rfl,rfl,hr⟩:=h6
    obtain ⟨m1,m2,m3,m4⟩:=h4
    refine (numeral_on O b _ _ _ _ _ _ _ _ _ _ _ _ rawv st st' c raw w h5 hr m4 hn (by omega)).mono ?_
    rintro e w1 ⟨rfl,⟨raw',g1,g2⟩,g3⟩
    refine ⟨rfl,⟨.inl h1,by omega,by simp;omega,hok,_,_,_,_,_,_,_,_,_,_,_,g1,⟨rfl,rfl,rfl,rfl,g2⟩,?_⟩,g3.mono (fun k _ hk=>by
      rcases hk with rfl | hk
      · exact h1
      · exact hr.2 k hk)⟩
    rw [List.append_nil]
    exact (trow_frG g3 h5 hr.1 h7).mono up_of
  | none =>
    have HL:=Lib.hid h
    obtain ⟨h1,h2,h3,h4,sv,inn,frv,rawv,nm,ch,sy,dg,cd,hg,tk,h5,h6,h7⟩:=h
    obtain ⟨rfl,rfl,rfl,rfl,hr⟩:=h6
    obtain ⟨m1,m2,m3,m4⟩:=h4
    have HN:=Lib.hid (fun W=>next_any st c W m4)
    rw [hn,show nxtV st none = .tuple #[.int .i64 (st:Int),.bool false] from rfl] at HN
    have HE:=Lib.hid (fun W=>ends_any st W m4)
    have k7:=h5.cell 7
    simp at k7
    cases he:ends st with
    | false =>
      have hs:step flP P (.num fr st raw) c = .bad 94 P []:=by simp only [step,hn,he];rfl
      rw [hs]
      rw [he] at HE
      have HP:=Lib.hid (And.intro h1 (And.intro h3 (And.intro h5 h7)))
      clear HL h1 h3 h5 h7 hr m3 m1 m2 h2
      go_enter Tryz.func52,Tryz.ntmps52
      go_wp2_with fail
      refine (HN.out _).mono ?_
      rintro e w' ⟨rfl,rfl⟩
      go_wp2_with fail
      refine (HE.out _).mono ?_
      rintro e w' ⟨rfl,rfl⟩
      go_wp2_with fail
      go_ret
      obtain ⟨h1,h3,h5,h7⟩:=HP.out
      exact ⟨rfl,by decide,by decide,⟨.inl h1,by omega,by simp;omega,.inr rfl,_,_,_,_,_,_,_,_,_,_,_,h5,fun h=>(by omega),by rw [List.append_nil];exact h7.mono up_of⟩,Fr.refl _ _⟩
    | true =>
      rw [he] at HE
      have hq:=wrong_none m3 he
      have HF:=Lib.hid (finish_anyG O b P fr _ _ _ _ _ _ _ _ _ _ _ tk raw (ts.map tokV) w h5 h1 hr h7 hq (by omega) (by omega) (by omega) (by rw [List.length_map];omega))
      have HP:=Lib.hid (And.intro h1 (And.intro h3 (And.intro h5 (And.intro h7 (And.intro hr m1)))))
      have HH:=Lib.hid h2
      clear HL h1 h3 h5 h7 hr m3 m1 m2 h2 hq
      cases hf:flP raw with
      | none =>
        have hs:step flP P (.num fr st raw) c = .bad 41 fr []:=by simp only [step,hn,he,if_true,hf]
        rw [hs]
        have HG:=Lib.hid hf
        clear hf hs
        go_enter Tryz.func52,Tryz.ntmps52
        go_wp2_with fail
        refine (HN.out _).mono ?_
        rintro e w' ⟨rfl,rfl⟩
        go_wp2_with fail
        refine (HE.out _).mono ?_
        rintro e w' ⟨rfl,rfl⟩
        go_wp2_with fail
        refine HF.out.mono ?_
        rintro e w1 ⟨_,g⟩
        obtain ⟨rfl,hb⟩:=g HG.out
        go_wp2_with fail
        go_ret
        obtain ⟨h1,h3,h5,h7,hr,m1⟩:=HP.out
        exact ⟨rfl,by decide,by decide,⟨.inl h1,by omega,by simp;omega,.inl rfl,_,_,_,_,_,_,_,_,_,_,_,h5.below hb h5.lt,fun _=>rfl,by rw [List.append_nil];exact (h7.keep (fun k hk=>hb.block k (town_lt h7.1 k hk))).mono up_of⟩,Fr.of_below hb⟩
      | some x =>
        have hs:step flP P (.num fr st raw) c = (outS P c).cons ⟨fr,P - fr,.num x⟩:=by simp only [step,hn,he,if_true,hf]
        rw [hs]
        have HG:=Lib.hid hf
        clear hf hs
        go_enter Tryz.func52,Tryz.ntmps52
        go_wp2_with fail
        refine (HN.out _).mono ?_
        rintro e w' ⟨rfl,rfl⟩
        go_wp2_with fail
        refine (HE.out _).mono ?_
        rintro e w' ⟨rfl,rfl⟩
        go_wp2_with fail
        refine HF.out.mono ?_
        rintro e w1 ⟨g,_⟩
        obtain ⟨rfl,⟨tk',g1,g2⟩,g3⟩:=g x HG.out
        go_wp2_with fail
        obtain ⟨h1,h3,h5,h7,hr,m1⟩:=HP.out
        have hfr:Fr O w w1:=g3.mono (fun k _ hk=>by
          rcases hk with rfl | hk
          · exact h1
          · exact h7.2 k hk)
        have hlx:LxMG (up O w) w1 b P P er dn .out (ts ++ [⟨fr,P - fr,.num x⟩]) :=
          ⟨.inl h1,HH.out,by simpa using h3,trivial,_,_,_,_,_,_,_,_,_,_,_,g1,⟨rfl,rfl⟩,by rw [List.map_append];exact g2⟩
        refine (outside_anyG (up O w) b P er dn _ c w1 hlx hP).mono ?_
        rintro e w2 hst
        obtain ⟨v,rfl⟩:∃ v,e = .returned v:=by
          cases hr:outS P c with
          | go m l=>rw [hr] at hst;exact ⟨_,hst.1⟩
          | bad no q l=>rw [hr] at hst;exact ⟨_,hst.1⟩
        have HST:=Lib.hid hst
        have HFR:=Lib.hid hfr
        have h3':ts.length ≤ 2 * P:=by omega
        clear hst hlx h1 h3 h5 h7 hr m1 g1 g2 g3 hfr g
        go_wp2_with fail
        go_ret
        exact StPG.cons HFR.out HST.out h3'
end Go.Proofs.YtgmholdkdppbmaaGreatDoor.Lx

namespace Go.Proofs.YtgmholdkdppbmaaGreatDoor.Lx
open Go.RowKit
theorem row_head {O:Nat → Prop} {w:World} {v:Value} {l:List UInt8} (h:Row O w v l) (hne:l ≠ []):∃ g cap,v = .slice (some ⟨g,0,none⟩) l.length cap ∧ ∀ j,(hj:j < l.length) → w.cell? ⟨g,j,none⟩ = some (bv l[j]):=by
  obtain ⟨A,c,rfl,_⟩:=own_shape h.1
  rcases h.1.2 with ⟨hv,hn⟩ | ⟨g,cap,cur,hv,hg,hh,r⟩
  · exact absurd (List.eq_nil_of_length_eq_zero hn) hne
  · injection hv with e1 e2 e3
    subst e1 e3
    refine ⟨g,c,rfl,fun j hj=>?_⟩
    have hrb:=RB.of_own h.1
    obtain ⟨g',o,e,_,hc⟩:=hrb.2 (by omega)
    injection e with e
    injection e with e4 e5
    subst e4 e5
    have:=hc j hj
    rwa [Nat.zero_add] at this
end Go.Proofs.YtgmholdkdppbmaaGreatDoor.Lx

namespace Go.Proofs.YtgmholdkdppbmaaGreatDoor.Lx
open Go.RowKit
set_option maxRecDepth 100000 in
theorem letter_anyG (O:Nat → Prop) (b P:Nat) (er dn:Value) (ts:List Tok) (c:UInt8) (fr:Nat) (raw:List UInt8) (w:World) (h:LxMG O w b P P er dn (.word fr raw) ts) (hP:P < 16777216) :
    Calls Tryz.prog 54 #[.pointer (some ⟨b,0,none⟩),.int .u8 (c.toNat:Int)] w (StPG O w b P er dn ts (step flP P (.word fr raw) c)):=by
  obtain ⟨h1,h2,h3,h4,sv,inn,frv,rawv,nm,ch,sy,dg,cd,hg,tk,h5,h6,h7⟩:=h
  obtain ⟨rfl,rfl,rfl,rfl,hr⟩:=h6
  obtain ⟨m1,m2,rest,m3,m4⟩:=h4
  obtain ⟨g,cap,rfl,hcell⟩:=row_head hr m2
  have hpos:0 < raw.length:=List.length_pos_iff.2 m2
  have hc0:=hcell 0 hpos
  rw [show raw[0] = raw.getD 0 0 by simp [List.getD,hpos]] at hc0
  have HW:=Lib.hid (fun W=>word_any (raw.getD 0 0) W)
  obtain ⟨W0,hW0⟩:∃ W0,wordOf (raw.getD 0 0) = W0:=⟨_,rfl⟩
  rw [hW0] at HW m3
  obtain ⟨d,rest,rfl⟩:∃ d r,rest = d :: r:=by
    cases rest with
    | nil=>exact absurd rfl m4
    | cons d r=>exact ⟨d,r,rfl⟩
  have hlt:raw.length < W0.length:=by rw [m3];simp
  have hstep:step flP P (.word fr raw) c = if d = c then (if raw.length + 1 = W0.length then .go .out [⟨fr,P + 1 - fr,.term W0⟩] else .go (.word fr (raw ++ [c])) []) else .bad 94 P []:=by
    simp only [step,hW0]
    rw [show W0[raw.length]? = some d by rw [m3];simp]
    simp only [Option.some.injEq]
  have hok:d = c → ¬ raw.length + 1 = W0.length → MdOk (P + 1) (.word fr (raw ++ [c])):=fun e1 e2=>by
    rw [if_pos e1,if_neg e2] at hstep
    exact (step_ok (m:=.word fr raw) ⟨m1,m2,d :: rest,by rw [hW0];exact m3,m4⟩ hstep).1
  rw [hstep]
  have HOK:=Lib.hid hok
  clear hstep hok
  have hW5:W0.length ≤ 5:=by rw [← hW0];unfold wordOf;(repeat' split) <;> decide
  have hgd:({ data:=W0.toArray }:ByteArray)[raw.length]'hlt = d:=by
    show (W0.toArray)[raw.length]'(by simpa using hlt) = d
    subst m3
    simp
  generalize raw.getD 0 0 = x0 at *
  have k6:=h5.cell 6
  simp at k6
  have hcd:=bit_byte d c
  have hne:((d.toNat:Int) != (c.toNat:Int)) = !decide (d = c):=by rw [← hcd];rfl
  have hsz:({ data:=W0.toArray }:ByteArray).size = W0.length:=rfl
  clear hcell
  generalize hn:raw.length = n at *
  have hl1:n < ({ data:=W0.toArray }:ByteArray).size:=hlt
  have hl2:(n:Int) < (W0.length:Int):=by omega
  have HP:=Lib.hid (And.intro h1 (And.intro h3 (And.intro h5 (And.intro h7 (And.intro hr (And.intro m1 (And.intro m3 hn)))))))
  obtain ⟨P1,hP1⟩:∃ P1,P + 1 = P1:=⟨_,rfl⟩
  have hsum:(P:Int) + 1 = ((P1:Nat):Int):=by omega
  have hP1b:P1 ≤ 16777217:=by omega
  have hf1:fr ≤ P1:=by omega
  have hn5:n ≤ 5:=by omega
  have HP1:=Lib.hid hP1
  have hcl:(w.alloc (.cells #[bv c] 5)).cell? ⟨w.heap.size,0,none⟩ = some (bv c):=by rw [(Blk.new w 5 #[bv c]).cell];rfl
  have HCL:=Lib.hid hcl
  have HON:=Lib.hid (hr.1.alloc (.cells #[bv c] 5))
  have HR:=Lib.hid hr
  have HB:=Lib.hid h5
  have HT7:=Lib.hid h7
  rw [show raw.length = n from hn] at HON
  have HN:=Lib.hid hn
  by_cases hdc:d = c
  · rw [decide_eq_true hdc] at hne
    have HD:=Lib.hid hdc
    by_cases hfull:n + 1 = W0.length
    · have e1:((n:Int) + 1 == (W0.length:Int)) = true:=by rw [beq_iff_eq];omega
      have HFU:=Lib.hid hfull
      rw [if_pos hdc,if_pos hfull]
      clear h1 h2 h3 h5 h7 hr m3 hn m4 hcd hP1 hcl hfull hdc
      go_enter Tryz.func54,Tryz.ntmps54
      go_wp2_with fail
      refine (HW.out _).mono ?_
      rintro e w' ⟨rfl,rfl⟩
      go_wp2_with (at_builtin;refine wpList_push rfl (.tmp 26) (.tmp 28) rfl 0 (.slice (some ⟨g,0,none⟩) n cap) n raw rfl HON.out _ _ rfl c HCL.out (by omega) (Nat.zero_le _) ?_;intro g2 cap2 w1 hown1 hg1 hat1 hlt1;obtain ⟨hbw,hpk⟩:=push_pack (below_new w _) HB.out HR.out HN.out (l2:=[c]) rfl hown1 hg1 hat1;have f6:=hbw.frozen 6;have k6':=hbw.cell 6;have q6:=(hpk 6 (.slice (some ⟨g2,0,none⟩) (n + 1) cap2)).1.cell 6;have q0:=(hpk 6 (.slice (some ⟨g2,0,none⟩) (n + 1) cap2)).1.cell 0;have HPK:=Lib.hid (hpk 6 (.slice (some ⟨g2,0,none⟩) (n + 1) cap2));simp at k6' q6 q0;clear hpk hbw hown1 hg1 hat1)
      obtain ⟨p1,p2,p3⟩:=HPK.out
      simp at p1
      refine (span_any b _ _ _ _ _ _ _ _ _ _ _ _ _ fr P1 _ p1 hf1 (by omega)).mono ?_
      rintro e w2 ⟨rfl,hb2⟩
      have t1:=trow_frG p3 HB.out HR.out.1 HT7.out
      have p1':=p1.below hb2 p1.lt
      have t2:TRowG O w2 tk (ts.map tokV):=t1.keep (fun k hk=>hb2.block k (town_lt t1.1 k hk))
      have HTL:=Lib.hid (fun ty u=>tell_anyG O b _ _ _ _ _ _ _ _ _ _ _ _ _ tk ty u (ts.map tokV) w2 p1' HP.out.1 t2 (by rw [List.length_map];have:=HP.out.2.1;simp at this;omega))
      have HF2:=Lib.hid (p3.below hb2)
      clear p1 p2 p3 t1 p1' t2 hb2
      go_wp2_with fail
      refine (HTL.out _ _).mono ?_
      rintro e w3 ⟨rfl,⟨tk',g1,g2'⟩,g3⟩
      go_wp2_with fail
      go_ret
      have hh:=HP.out
      refine toldG (W:=w2) hh.1 (by have:=hh.2.1;simpa using this) hP g1 ?_ HF2.out.size ?_
      · rw [HP1.out]
        exact g2'
      · have k1:Fr O w w2:=HF2.out.mono (fun k _ hk=>by
          rcases hk with rfl | hk
          · exact hh.1
          · exact HR.out.2 k hk)
        exact k1.trans (g3.mono (fun k _ hk=>by
          rcases hk with rfl | hk
          · exact hh.1
          · exact HT7.out.2 k hk))
    · have e1:((n:Int) + 1 == (W0.length:Int)) = false:=by rw [beq_eq_false_iff_ne];omega
      have e2:(n + 1 == W0.length) = false:=by rw [beq_eq_false_iff_ne];exact hfull
      have HFU:=Lib.hid hfull
      rw [if_pos hdc,if_neg hfull]
      clear h1 h2 h3 h5 h7 hr m3 hn m4 hcd hP1 hcl hfull hdc
      go_enter Tryz.func54,Tryz.ntmps54
      go_wp2_with fail
      refine (HW.out _).mono ?_
      rintro e w' ⟨rfl,rfl⟩
      go_wp2_with (at_builtin;refine wpList_push rfl (.tmp 26) (.tmp 28) rfl 0 (.slice (some ⟨g,0,none⟩) n cap) n raw rfl HON.out _ _ rfl c HCL.out (by omega) (Nat.zero_le _) ?_;intro g2 cap2 w1 hown1 hg1 hat1 hlt1;obtain ⟨hbw,hpk⟩:=push_pack (below_new w _) HB.out HR.out HN.out (l2:=[c]) rfl hown1 hg1 hat1;have f6:=hbw.frozen 6;have k6':=hbw.cell 6;have q6:=(hpk 6 (.slice (some ⟨g2,0,none⟩) (n + 1) cap2)).1.cell 6;have q0:=(hpk 6 (.slice (some ⟨g2,0,none⟩) (n + 1) cap2)).1.cell 0;have HPK:=Lib.hid (hpk 6 (.slice (some ⟨g2,0,none⟩) (n + 1) cap2));simp at k6' q6 q0;clear hpk hbw hown1 hg1 hat1)
      go_ret
      obtain ⟨p1,p2,p3⟩:=HPK.out
      simp at p1
      have hh:=HP.out
      refine ⟨rfl,⟨.inl hh.1,by omega,by have:=hh.2.1;simp at this ⊢;omega,HOK.out HD.out HFU.out,_,_,_,_,_,_,_,_,_,_,_,p1,⟨rfl,rfl,rfl,rfl,p2⟩,?_⟩,p3.mono (fun k _ hk=>by
        rcases hk with rfl | hk
        · exact hh.1
        · exact HR.out.2 k hk)⟩
      rw [List.append_nil]
      exact (trow_frG p3 HB.out HR.out.1 HT7.out).mono up_of
  · rw [decide_eq_false hdc] at hne
    clear h1 h2 h3 h5 h7 hr m3 hn m4 hcd hP1 hcl
    rw [if_neg hdc]
    go_enter Tryz.func54,Tryz.ntmps54
    go_wp2_with fail
    refine (HW.out _).mono ?_
    rintro e w' ⟨rfl,rfl⟩
    go_wp2_with fail
    go_ret
    have hh:=HP.out
    exact ⟨rfl,by decide,by decide,⟨.inl hh.1,by omega,by have:=hh.2.1;simp at this ⊢;omega,.inr rfl,_,_,_,_,_,_,_,_,_,_,_,HB.out,fun h=>(by omega),by rw [List.append_nil];exact HT7.out.mono up_of⟩,Fr.refl _ _⟩
end Go.Proofs.YtgmholdkdppbmaaGreatDoor.Lx

namespace Go.Proofs.YtgmholdkdppbmaaGreatDoor.Lx
open Go.RowKit
def hexV (c:UInt8):Int:=match hexv c with
  | some v=>v
  | none=>-1
set_option maxRecDepth 100000 in
set_option maxHeartbeats 8000000 in
theorem value_any (c:UInt8) (w:World):Calls Tryz.prog 99 #[.int .u8 (c.toNat:Int)] w fun e w'=>e = .returned (.int .i32 (hexV c)) ∧ w = w':=by
  have hlt:c.toNat < 256:=UInt8.toNat_lt c
  obtain ⟨R,hR⟩:∃ R,hexV c = R:=⟨_,rfl⟩
  unfold hexV hexv at hR
  rw [show hexV c = R by unfold hexV hexv;exact hR]
  generalize c.toNat = C at *
  by_cases d1:48 ≤ C ∧ C ≤ 57
  · rw [if_pos d1] at hR
    have t1:decide (48 ≤ (C:Int)) = true:=by rw [decide_eq_true_iff];omega
    have t2:decide ((C:Int) ≤ 57) = true:=by rw [decide_eq_true_iff];omega
    obtain ⟨x,hx⟩:∃ x,C - 48 = x:=⟨_,rfl⟩
    have e1:(C:Int) - 48 = (x:Int):=by omega
    have hx9:x < 10:=by omega
    rw [hx] at hR
    subst hR
    clear d1 hx
    go_enter Tryz.func99,Tryz.ntmps99
    go_wp2
    go_ret
    exact ⟨rfl,rfl⟩
  rw [if_neg d1] at hR
  have t1:decide (48 ≤ (C:Int)) = false ∨ (decide (48 ≤ (C:Int)) = true ∧ decide ((C:Int) ≤ 57) = false):=by
    rcases Nat.lt_or_ge C 48 with h | h
    · left;rw [decide_eq_false_iff_not];omega
    · right;refine ⟨by rw [decide_eq_true_iff];omega,by rw [decide_eq_false_iff_not];omega⟩
  by_cases d2:97 ≤ C ∧ C ≤ 102
  · rw [if_pos d2] at hR
    have t3:decide (97 ≤ (C:Int)) = true:=by rw [decide_eq_true_iff];omega
    have t4:decide ((C:Int) ≤ 102) = true:=by rw [decide_eq_true_iff];omega
    obtain ⟨x,hx⟩:∃ x,C - 97 = x:=⟨_,rfl⟩
    have e1:(C:Int) - 97 = (x:Int):=by omega
    have hx9:x < 6:=by omega
    rw [hx] at hR
    have e2:(x:Int) + 10 = ((x + 10:Nat):Int):=by omega
    have hR':(((x + 10:Nat):Nat):Int) = R:=hR
    obtain ⟨y,hy⟩:∃ y,x + 10 = y:=⟨_,rfl⟩
    have hy16:y < 16:=by omega
    rw [hy] at e2 hR'
    subst hR'
    clear d1 d2 hx hR hy
    rcases t1 with t1 | ⟨t1,t2⟩ <;>
    ( go_enter Tryz.func99,Tryz.ntmps99
      go_wp2
      go_ret
      exact ⟨rfl,rfl⟩ )
  rw [if_neg d2] at hR
  have t3:decide (97 ≤ (C:Int)) = false ∨ (decide (97 ≤ (C:Int)) = true ∧ decide ((C:Int) ≤ 102) = false):=by
    rcases Nat.lt_or_ge C 97 with h | h
    · left;rw [decide_eq_false_iff_not];omega
    · right;refine ⟨by rw [decide_eq_true_iff];omega,by rw [decide_eq_false_iff_not];omega⟩
  by_cases d3:65 ≤ C ∧ C ≤ 70
  · rw [if_pos d3] at hR
    have t5:decide (65 ≤ (C:Int)) = true:=by rw [decide_eq_true_iff];omega
    have t6:decide ((C:Int) ≤ 70) = true:=by rw [decide_eq_true_iff];omega
    obtain ⟨x,hx⟩:∃ x,C - 65 = x:=⟨_,rfl⟩
    have e1:(C:Int) - 65 = (x:Int):=by omega
    have hx9:x < 6:=by omega
    rw [hx] at hR
    have e2:(x:Int) + 10 = ((x + 10:Nat):Int):=by omega
    have hR':(((x + 10:Nat):Nat):Int) = R:=hR
    obtain ⟨y,hy⟩:∃ y,x + 10 = y:=⟨_,rfl⟩
    have hy16:y < 16:=by omega
    rw [hy] at e2 hR'
    subst hR'
    clear d1 d2 d3 hx hR hy
    rcases t1 with t1 | ⟨t1,t2⟩ <;> rcases t3 with t3 | ⟨t3,t4⟩ <;>
    ( go_enter Tryz.func99,Tryz.ntmps99
      go_wp2
      go_ret
      exact ⟨rfl,rfl⟩ )
  rw [if_neg d3] at hR
  have t5:decide (65 ≤ (C:Int)) = false ∨ (decide (65 ≤ (C:Int)) = true ∧ decide ((C:Int) ≤ 70) = false):=by
    rcases Nat.lt_or_ge C 65 with h | h
    · left;rw [decide_eq_false_iff_not];omega
    · right;refine ⟨by rw [decide_eq_true_iff];omega,by rw [decide_eq_false_iff_not];omega⟩
  have hR':(-1:Int) = R:=hR
  subst hR'
  clear d1 d2 d3 hR
  rcases t1 with t1 | ⟨t1,t2⟩ <;> rcases t3 with t3 | ⟨t3,t4⟩ <;> rcases t5 with t5 | ⟨t5,t6⟩ <;>
  ( go_enter Tryz.func99,Tryz.ntmps99
    go_wp2
    go_ret
    exact ⟨rfl,rfl⟩ )
def saidV (o:Option UInt8):Value:=match o with
  | some b=>.tuple #[.int .u8 (b.toNat:Int),.bool true]
  | none=>.tuple #[.int .u8 0,.bool false]
set_option maxRecDepth 100000 in
set_option maxHeartbeats 8000000 in
theorem said_any (c:UInt8) (w:World):Calls Tryz.prog 81 #[.int .u8 (c.toNat:Int)] w fun e w'=>e = .returned (saidV (simp1 c)) ∧ w = w':=by
  by_cases h34:c = 34
  · subst h34
    rw [show (((34:UInt8).toNat:Nat):Int) = 34 from rfl]
    go_enter Tryz.func81,Tryz.ntmps81
    go_wp2
    go_ret2
    exact ⟨rfl,rfl⟩
  have n34:((c.toNat:Int) == 34) = false:=by
    have:=bit_byte c 34
    rw [decide_eq_false h34] at this
    exact this
  by_cases h92:c = 92
  · subst h92
    rw [show (((92:UInt8).toNat:Nat):Int) = 92 from rfl]
    go_enter Tryz.func81,Tryz.ntmps81
    go_wp2
    go_ret2
    exact ⟨rfl,rfl⟩
  have n92:((c.toNat:Int) == 92) = false:=by
    have:=bit_byte c 92
    rw [decide_eq_false h92] at this
    exact this
  by_cases h47:c = 47
  · subst h47
    rw [show (((47:UInt8).toNat:Nat):Int) = 47 from rfl]
    go_enter Tryz.func81,Tryz.ntmps81
    go_wp2
    go_ret2
    exact ⟨rfl,rfl⟩
  have n47:((c.toNat:Int) == 47) = false:=by
    have:=bit_byte c 47
    rw [decide_eq_false h47] at this
    exact this
  by_cases h98:c = 98
  · subst h98
    rw [show (((98:UInt8).toNat:Nat):Int) = 98 from rfl]
    go_enter Tryz.func81,Tryz.ntmps81
    go_wp2
    go_ret2
    exact ⟨rfl,rfl⟩
  have n98:((c.toNat:Int) == 98) = false:=by
    have:=bit_byte c 98
    rw [decide_eq_false h98] at this
    exact this
  by_cases h102:c = 102
  · subst h102
    rw [show (((102:UInt8).toNat:Nat):Int) = 102 from rfl]
    go_enter Tryz.func81,Tryz.ntmps81
    go_wp2
    go_ret2
    exact ⟨rfl,rfl⟩
  have n102:((c.toNat:Int) == 102) = false:=by
    have:=bit_byte c 102
    rw [decide_eq_false h102] at this
    exact this
  by_cases h110:c = 110
  · subst h110
    rw [show (((110:UInt8).toNat:Nat):Int) = 110 from rfl]
    go_enter Tryz.func81,Tryz.ntmps81
    go_wp2
    go_ret2
    exact ⟨rfl,rfl⟩
  have n110:((c.toNat:Int) == 110) = false:=by
    have:=bit_byte c 110
    rw [decide_eq_false h110] at this
    exact this
  by_cases h114:c = 114
  · subst h114
    rw [show (((114:UInt8).toNat:Nat):Int) = 114 from rfl]
    go_enter Tryz.func81,Tryz.ntmps81
    go_wp2
    go_ret2
    exact ⟨rfl,rfl⟩
  have n114:((c.toNat:Int) == 114) = false:=by
    have:=bit_byte c 114
    rw [decide_eq_false h114] at this
    exact this
  by_cases h116:c = 116
  · subst h116
    rw [show (((116:UInt8).toNat:Nat):Int) = 116 from rfl]
    go_enter Tryz.func81,Tryz.ntmps81
    go_wp2
    go_ret2
    exact ⟨rfl,rfl⟩
  have n116:((c.toNat:Int) == 116) = false:=by
    have:=bit_byte c 116
    rw [decide_eq_false h116] at this
    exact this
  have hs:simp1 c = none:=by
    unfold simp1
    rw [if_neg h34,if_neg h92,if_neg h47,if_neg h98,if_neg h102,if_neg h110,if_neg h114,if_neg h116]
  rw [hs]
  generalize (c.toNat:Int) = C at *
  go_enter Tryz.func81,Tryz.ntmps81
  go_wp2
  go_ret2
  exact ⟨rfl,rfl⟩
set_option maxRecDepth 100000 in
set_option maxHeartbeats 8000000 in
theorem lone_any (b n code high v:Nat) (c0 c1 c2 c3 c4 c5 c6 c7 c8 c9 c13:Value) (w:World) (hb:Blk w b 80 #[c0,c1,c2,c3,c4,c5,c6,c7,c8,c9,.int .i64 (n:Nat),.int .i32 (code:Nat),.int .i32 (high:Nat),c13]) (hn:n ≤ 3) (hv:v < 16) :
    Calls Tryz.prog 100 #[.pointer (some ⟨b,8,none⟩),.int .i32 (v:Nat)] w fun e w'=>e = .returned (.bool (loneB (high != 0) n code v)) ∧ w = w':=by
  have k10:=hb.cell 10
  have k11:=hb.cell 11
  have k12:=hb.cell 12
  simp at k10 k11 k12
  clear hb
  have t1:∃ x,((code:Int) == 13) = x ∧ (code == 13) = x:=⟨_,rfl,by
    rw [Bool.eq_iff_iff];simp;omega⟩
  have t2:∃ x,decide (12 ≤ (v:Int)) = x ∧ decide (12 ≤ v) = x:=⟨_,rfl,by
    rw [Bool.eq_iff_iff];simp;omega⟩
  have t3:∃ x,decide ((v:Int) < 12) = x ∧ decide (v < 12) = x:=⟨_,rfl,by
    rw [Bool.eq_iff_iff];simp;omega⟩
  have t4:∃ x,((v:Int) != 13) = x ∧ (v != 13) = x:=⟨_,rfl,by
    rw [Bool.eq_iff_iff,bne_iff_ne,bne_iff_ne];omega⟩
  obtain ⟨x1,t1,t1'⟩:=t1
  obtain ⟨x2,t2,t2'⟩:=t2
  obtain ⟨x3,t3,t3'⟩:=t3
  obtain ⟨x4,t4,t4'⟩:=t4
  have hlone:loneB (high != 0) n code v = if (high != 0) = true then (n == 0 && x4) || (n == 1 && x3) else n == 1 && x1 && x2:=by
    unfold loneB
    rw [t1',t2',t3',t4']
  rw [hlone]
  clear hlone t1' t2' t3' t4'
  have hn4:n = 0 ∨ n = 1 ∨ n = 2 ∨ n = 3:=by omega
  by_cases hh:high = 0
  · subst hh
    rcases hn4 with rfl | rfl | rfl | rfl <;> cases x1 <;> cases x2 <;>
    ( go_enter Tryz.func100,Tryz.ntmps100
      go_wp2
      go_ret
      exact ⟨rfl,rfl⟩ )
  · have e1:((high:Int) != 0) = true:=by rw [bne_iff_ne];omega
    have e2:((high:Int) == 0) = false:=by rw [beq_eq_false_iff_ne];omega
    have e3:(high != 0) = true:=by rw [bne_iff_ne];exact hh
    rw [e3,if_pos rfl]
    clear hh e3
    rcases hn4 with rfl | rfl | rfl | rfl <;> cases x3 <;> cases x4 <;>
    ( go_enter Tryz.func100,Tryz.ntmps100
      go_wp2
      go_ret
      exact ⟨rfl,rfl⟩ )
end Go.Proofs.YtgmholdkdppbmaaGreatDoor.Lx

namespace Go.Proofs.YtgmholdkdppbmaaGreatDoor.Lx
open Go.RowKit
theorem Fdr.set {O:Nat → Prop} {w:World} {Q:Nat} {ch:Value} {held:List UInt8} {b:Nat} {cs:Array Value} (h:Fdr O w Q ch held) (hb:Blk w b 80 cs) (i:Nat) (u:Value):Fdr O (w.setCell ⟨b,i,none⟩ u) Q ch held:=by
  obtain ⟨g,f,h1,h2,h3,h4,h5,h6,h7⟩:=h
  obtain ⟨hs,a1,a2,a3,a4⟩:=h2
  have hgb:g ≠ b:=a4.apart hb (by decide)
  exact ⟨g,f,h1,⟨hs,a1,a2,a3,(set_far hgb).trans a4⟩,h3,h4,h5,h6,h7⟩
end Go.Proofs.YtgmholdkdppbmaaGreatDoor.Lx

namespace Go.Proofs.YtgmholdkdppbmaaGreatDoor.Lx
open Go.RowKit
set_option maxRecDepth 100000 in
theorem slash_anyG (O:Nat → Prop) (b P:Nat) (er dn:Value) (ts:List Tok) (c:UInt8) (fr:Nat) (says:List UInt8) (high:Nat) (w:World) (h:LxMG O w b P P er dn (.sla fr says high) ts) (hP:P < 16777216) :
    Calls Tryz.prog 116 #[.pointer (some ⟨b,0,none⟩),.int .u8 (c.toNat:Int)] w (StPG O w b P er dn ts (step flP P (.sla fr says high) c)):=by
  have hstep:step flP P (.sla fr says high) c = if c = 92 then .go (.leu fr says high) [] else .bad 93 P []:=rfl
  have hok:=step_ok (fl:=flP) (c:=c) h.2.2.2.1 (m':=.leu fr says high) (t:=[])
  rw [hstep] at hok ⊢
  obtain ⟨h1,h2,h3,h4,sv,inn,frv,raw,nm,ch,sy,dg,cd,hg,tk,h5,h6,h7⟩:=h
  obtain ⟨rfl,rfl,rfl,rfl,hr,hf,rfl⟩:=h6
  have hne:((c.toNat:Int) != 92) = !decide (c = 92):=by
    have:=bit_byte c 92
    rw [← this];rfl
  have k3:=h5.cell 3
  have f3:=h5.frozen 3
  simp at k3
  have HP:=Lib.hid (And.intro h1 (And.intro h3 (And.intro h5 (And.intro h7 (And.intro hr hf)))))
  clear h1 h2 h3 h5 h7 hr hf hstep
  by_cases hc:c = 92
  · rw [if_pos hc] at hok ⊢
    rw [decide_eq_true hc] at hne
    have HOK:=Lib.hid (hok rfl).1
    clear hok hc
    go_enter Tryz.func116,Tryz.ntmps116
    go_wp2
    go_ret
    obtain ⟨h1,h3,h5,h7,hr,hf⟩:=HP.out
    have b1:=h5.set1 3 fLeu
    simp at b1
    refine ⟨rfl,⟨.inl h1,by omega,by simp at h3 ⊢;omega,HOK.out,_,_,_,_,_,_,_,_,_,_,_,b1,⟨rfl,rfl,rfl,rfl,(hr.set h5 3 fLeu).mono up_of,(hf.set h5 3 fLeu).mono up_of (by omega),rfl⟩,?_⟩,(Fr.refl _ _).setCell (p:=⟨b,3,none⟩) h1 _⟩
    rw [List.append_nil]
    exact (h7.set h5 3 fLeu).mono up_of
  · rw [if_neg hc]
    rw [decide_eq_false hc] at hne
    clear hok hc
    go_enter Tryz.func116,Tryz.ntmps116
    go_wp2
    go_ret
    obtain ⟨h1,h3,h5,h7,hr,hf⟩:=HP.out
    exact ⟨rfl,by decide,by decide,⟨.inl h1,by omega,by simp at h3 ⊢;omega,.inr rfl,_,_,_,_,_,_,_,_,_,_,_,h5,fun h=>(by omega),by rw [List.append_nil];exact h7.mono up_of⟩,Fr.refl _ _⟩
set_option maxRecDepth 100000 in
theorem letterU_anyG (O:Nat → Prop) (b P:Nat) (er dn:Value) (ts:List Tok) (c:UInt8) (fr:Nat) (says:List UInt8) (high:Nat) (w:World) (h:LxMG O w b P P er dn (.leu fr says high) ts) (hP:P < 16777216) :
    Calls Tryz.prog 132 #[.pointer (some ⟨b,0,none⟩),.int .u8 (c.toNat:Int)] w (StPG O w b P er dn ts (step flP P (.leu fr says high) c)):=by
  have hstep:step flP P (.leu fr says high) c = if c = 117 then .go (.dig fr says 0 0 high) [] else .bad 93 P []:=rfl
  have hok:=step_ok (fl:=flP) (c:=c) h.2.2.2.1 (m':=.dig fr says 0 0 high) (t:=[])
  rw [hstep] at hok ⊢
  obtain ⟨h1,h2,h3,h4,sv,inn,frv,raw,nm,ch,sy,dg,cd,hg,tk,h5,h6,h7⟩:=h
  obtain ⟨rfl,rfl,rfl,rfl,hr,hf,rfl⟩:=h6
  have hne:((c.toNat:Int) != 117) = !decide (c = 117):=by
    have:=bit_byte c 117
    rw [← this];rfl
  have k3:=h5.cell 3
  have f3:=h5.frozen 3
  have k10:=h5.cell 10
  have f10:=h5.frozen 10
  have k11:=h5.cell 11
  have f11:=h5.frozen 11
  simp at k3 k10 k11
  have HP:=Lib.hid (And.intro h1 (And.intro h3 (And.intro h5 (And.intro h7 (And.intro hr hf)))))
  clear h1 h2 h3 h5 h7 hr hf hstep
  by_cases hc:c = 117
  · rw [if_pos hc] at hok ⊢
    rw [decide_eq_true hc] at hne
    have HOK:=Lib.hid (hok rfl).1
    clear hok hc
    go_enter Tryz.func132,Tryz.ntmps132
    go_wp2
    go_ret
    obtain ⟨h1,h3,h5,h7,hr,hf⟩:=HP.out
    have b1:=h5.set1 10 (.int .i64 0)
    have b2:=b1.set1 11 (.int .i32 0)
    have b3:=b2.set1 3 fDig
    have r3:=((hr.set h5 10 (.int .i64 0)).set b1 11 (.int .i32 0)).set b2 3 fDig
    have t3:=((h7.set h5 10 (.int .i64 0)).set b1 11 (.int .i32 0)).set b2 3 fDig
    have d3:=((hf.set h5 10 (.int .i64 0)).set b1 11 (.int .i32 0)).set b2 3 fDig
    simp at b3
    refine ⟨rfl,⟨.inl h1,by omega,by simp at h3 ⊢;omega,HOK.out,_,_,_,_,_,_,_,_,_,_,_,b3,⟨rfl,rfl,rfl,rfl,r3.mono up_of,d3.mono up_of (by omega),rfl,rfl,rfl⟩,?_⟩,(((Fr.refl _ _).setCell (p:=⟨b,10,none⟩) h1 _).setCell (p:=⟨b,11,none⟩) h1 _).setCell (p:=⟨b,3,none⟩) h1 _⟩
    rw [List.append_nil]
    exact t3.mono up_of
  · rw [if_neg hc]
    rw [decide_eq_false hc] at hne
    clear hok hc
    go_enter Tryz.func132,Tryz.ntmps132
    go_wp2
    go_ret
    obtain ⟨h1,h3,h5,h7,hr,hf⟩:=HP.out
    exact ⟨rfl,by decide,by decide,⟨.inl h1,by omega,by simp at h3 ⊢;omega,.inr rfl,_,_,_,_,_,_,_,_,_,_,_,h5,fun h=>(by omega),by rw [List.append_nil];exact h7.mono up_of⟩,Fr.refl _ _⟩
set_option maxRecDepth 100000 in
theorem escape_anyG (O:Nat → Prop) (b P:Nat) (er dn:Value) (ts:List Tok) (c:UInt8) (fr:Nat) (says:List UInt8) (w:World) (h:LxMG O w b P P er dn (.esc fr says) ts) (hP:P < 16777216) :
    Calls Tryz.prog 63 #[.pointer (some ⟨b,0,none⟩),.int .u8 (c.toNat:Int)] w (StPG O w b P er dn ts (step flP P (.esc fr says) c)):=by
  have hok:=fun m' t=>step_ok (fl:=flP) (c:=c) h.2.2.2.1 (m':=m') (t:=t)
  have hstep:step flP P (.esc fr says) c = if c = 117 then .go (.dig fr says 0 0 0) [] else match simp1 c with
    | some b=>.go (.txt fr (says ++ [b]) []) []
    | none=>.bad 92 P []:=rfl
  rw [hstep] at hok ⊢
  obtain ⟨h1,h2,h3,h4,sv,inn,frv,raw,nm,ch,sy,dg,cd,hg,tk,h5,h6,h7⟩:=h
  obtain ⟨rfl,rfl,rfl,rfl,hr,hf,rfl⟩:=h6
  have hne:((c.toNat:Int) == 117) = decide (c = 117):=bit_byte c 117
  have k3:=h5.cell 3
  have f3:=h5.frozen 3
  have k9:=h5.cell 9
  have k10:=h5.cell 10
  have f10:=h5.frozen 10
  have k11:=h5.cell 11
  have f11:=h5.frozen 11
  simp at k3 k9 k10 k11
  obtain ⟨A,cap,rfl,_⟩:=own_shape hr.1
  obtain ⟨n,hn⟩:∃ n,says.length = n:=⟨_,rfl⟩
  have hn4:n ≤ 100000000:=by have:=h4.2;omega
  rw [hn] at k9 h5 hr
  have HP:=Lib.hid (And.intro h1 (And.intro h3 (And.intro h5 (And.intro h7 (And.intro hr hf)))))
  have HN:=Lib.hid hn
  have hown:=hr.1
  rw [hn] at hown
  clear h1 h2 h3 h4 h5 h7 hr hf hstep hn
  by_cases hc:c = 117
  · rw [if_pos hc] at hok ⊢
    rw [decide_eq_true hc] at hne
    have HOK:=Lib.hid (hok _ _ rfl).1
    clear hok hc hown
    go_enter Tryz.func63,Tryz.ntmps63
    go_wp2
    go_ret
    obtain ⟨h1,h3,h5,h7,hr,hf⟩:=HP.out
    have b1:=h5.set1 10 (.int .i64 0)
    have b2:=b1.set1 11 (.int .i32 0)
    have b3:=b2.set1 3 fDig
    have r3:=((hr.set h5 10 (.int .i64 0)).set b1 11 (.int .i32 0)).set b2 3 fDig
    have t3:=((h7.set h5 10 (.int .i64 0)).set b1 11 (.int .i32 0)).set b2 3 fDig
    have d3:=((hf.set h5 10 (.int .i64 0)).set b1 11 (.int .i32 0)).set b2 3 fDig
    simp at b3
    refine ⟨rfl,⟨.inl h1,by omega,by simp at h3 ⊢;omega,HOK.out,_,_,_,_,_,_,_,_,_,_,_,b3,⟨rfl,rfl,rfl,rfl,r3.mono up_of,d3.mono up_of (by omega),rfl,rfl,rfl⟩,?_⟩,(((Fr.refl _ _).setCell (p:=⟨b,10,none⟩) h1 _).setCell (p:=⟨b,11,none⟩) h1 _).setCell (p:=⟨b,3,none⟩) h1 _⟩
    rw [List.append_nil]
    exact t3.mono up_of
  rw [if_neg hc] at hok ⊢
  rw [decide_eq_false hc] at hne
  have HS:=Lib.hid (fun W=>said_any c W)
  cases hs:simp1 c with
  | none =>
    rw [hs,show saidV none = .tuple #[.int .u8 0,.bool false] from rfl] at HS
    clear hok hc hs hown
    go_enter Tryz.func63,Tryz.ntmps63
    go_wp2_with fail
    refine (HS.out _).mono ?_
    rintro e w' ⟨rfl,rfl⟩
    go_wp2_with fail
    go_ret
    obtain ⟨h1,h3,h5,h7,hr,hf⟩:=HP.out
    exact ⟨rfl,by decide,by decide,⟨.inl h1,by omega,by simp at h3 ⊢;omega,.inr rfl,_,_,_,_,_,_,_,_,_,_,_,h5,fun h=>(by omega),by rw [List.append_nil];exact h7.mono up_of⟩,Fr.refl _ _⟩
  | some x =>
    rw [hs] at hok
    have HOK:=Lib.hid (hok _ _ rfl).1
    rw [hs,show saidV (some x) = .tuple #[.int .u8 (x.toNat:Int),.bool true] from rfl] at HS
    have hcl:(w.alloc (.cells #[bv x] 5)).cell? ⟨w.heap.size,0,none⟩ = some (bv x):=by rw [(Blk.new w 5 #[bv x]).cell];rfl
    have HCL:=Lib.hid hcl
    have HON:=Lib.hid (hown.alloc (.cells #[bv x] 5))
    clear hok hc hs hown hcl
    go_enter Tryz.func63,Tryz.ntmps63
    go_wp2_with fail
    refine (HS.out _).mono ?_
    rintro e w' ⟨rfl,rfl⟩
    go_wp2_with (at_builtin;refine wpList_push rfl (.tmp 32) (.tmp 34) rfl 0 (.slice A n cap) n says rfl HON.out _ _ rfl x HCL.out (by omega) (Nat.zero_le _) ?_;intro g2 cap2 w1 hown1 hg1 hat1 hlt1;obtain ⟨hbw,hpk⟩:=push_pack (below_new w _) HP.out.2.2.1 HP.out.2.2.2.2.1 HN.out (l2:=[x]) rfl hown1 hg1 hat1;have f9:=hbw.frozen 9;have k9':=hbw.cell 9;have HPK:=Lib.hid (hpk 9 (.slice (some ⟨g2,0,none⟩) (n + 1) cap2));have f3:=HPK.out.1.frozen 3;have k3':=HPK.out.1.cell 3;simp at k9' k3';clear hpk hbw hown1 hg1 hat1)
    go_ret
    obtain ⟨p1,p2,p3⟩:=HPK.out
    obtain ⟨h1,h3,h5,h7,hr,hf⟩:=HP.out
    simp at p1
    have b2:=p1.set1 3 fWit
    simp at b2
    refine ⟨rfl,⟨.inl h1,by omega,by simp at h3 ⊢;omega,HOK.out,_,_,_,_,_,_,_,_,_,_,_,b2,⟨rfl,rfl,rfl,rfl,p2.set p1 3 fWit,((fdr_fr p3 h5 hr.1 hf).set p1 3 fWit).mono up_of (by omega),rfl⟩,?_⟩,(p3.mono (fun k _ hk=>by
        rcases hk with rfl | hk
        · exact h1
        · exact hr.2 k hk)).setCell (p:=⟨b,3,none⟩) h1 _⟩
    rw [List.append_nil]
    exact ((trow_frG p3 h5 hr.1 h7).set p1 3 fWit).mono up_of
end Go.Proofs.YtgmholdkdppbmaaGreatDoor.Lx

namespace Go.Proofs.YtgmholdkdppbmaaGreatDoor.Lx
open Go.RowKit
attribute [local go_sem ↓] Go.wp_at_zero Go.wp_at_succ
theorem or_i32 (r x:Nat) (hr:r < 65536) (hx:x < 16):bits .or .i32 ((r:Int) * 16) (x:Int) = ((16 * r + x:Nat):Int):=by
  have e:(r:Int) * 16 = ((r * 16:Nat):Int):=by omega
  have h1:(BitVec.ofInt 32 ((r * 16:Nat):Int)).toNat = r * 16:=by
    rw [BitVec.ofInt_natCast,BitVec.toNat_ofNat];exact Nat.mod_eq_of_lt (by omega)
  have h2:(BitVec.ofInt 32 (x:Int)).toNat = x:=by
    rw [BitVec.ofInt_natCast,BitVec.toNat_ofNat];exact Nat.mod_eq_of_lt (by omega)
  rw [e]
  show IntKind.i32.wrap ((BitVec.ofInt 32 ((r * 16:Nat):Int) ||| BitVec.ofInt 32 (x:Int)).toNat:Int) = _
  rw [BitVec.toNat_or,h1,h2]
  have:=Nat.two_pow_add_eq_or_of_lt (b:=x) (i:=4) (by omega) r
  rw [show r * 16 = 2 ^ 4 * r from by omega,← this]
  have hw:∀ z:Nat,z < 2147483648 → IntKind.i32.wrap (z:Int) = (z:Int):=fun z hz=>by
    simp only [IntKind.wrap,IntKind.signed,IntKind.bits]
    simp
    omega
  rw [hw _ (by omega)]
theorem wpList_pushn {ops:Array Oper} {rest:List Oper} {o:Oper} {a:Act} {Q:Exit → Act → World → Prop} {w:World} (hgd:o.guard = none) (s x:Operand)
    (ho:o.op = .call { callee:=.builtin .append,args:=#[s,x],argTypes:=#[22,22] })
    (v:Value) (n:Nat) (bs:List UInt8) (hs:a.eval s = v) (hown:w.ownsRow 0 5 1 v n (bs.map bv))
    (g0 d c0:Nat) (hx:a.eval x = .slice (some ⟨g0,0,none⟩) d c0) (l:List UInt8) (hl:l.length = d) (hd0:0 < d) (hd:d ≤ 100) (hc:∀ j,(hj:j < l.length) → w.cell? ⟨g0,j,none⟩ = some (bv l[j])) (hn:n < 14073748835532)
    (h:∀ g cap w',w'.ownsRow 0 5 1 (.slice (some ⟨g,0,none⟩) (n + d) cap) (n + d) ((bs ++ l).map bv) → w.grownBy w' v.ownBlock → (v.ownBlock = some g ∨ g = w.heap.size) → g < w'.heap.size →
      wpList Tryz.prog ops Q rest (a.put o.dst (.slice (some ⟨g,0,none⟩) (n + d) cap)) w'):wpList Tryz.prog ops Q (o :: rest) a w:=by
  obtain ⟨i,hi,hz,hsize,hby⟩:=info_parts info_u8
  refine wpList_append_lies (P:=Tryz.prog) w hgd s x 22 ho 0 5 i (.int .u8 0) 1 1 Tryz.underlying22 hi hz hsize hby rfl (by omega) v n (bs.map bv) hs hown ⟨g0,0,none⟩ d c0 (l.map bv) hx (by simp [hl]) ?_ ?_ (by omega) (by unfold maxLen;omega) (by omega) (Nat.zero_le _) w.heap.size rfl ?_
  · intro j u hj
    have hjl:j < l.length:=by
      rcases Nat.lt_or_ge j l.length with h' | h'
      · exact h'
      · rw [List.getElem?_eq_none (by simpa using h')] at hj;cases hj
    have hadd:(⟨g0,0,none⟩:Addr).add j = ⟨g0,j,none⟩:=by unfold Addr.add;split <;> simp_all
    rw [hadd,hc j hjl]
    simpa [hjl] using hj
  · intro u hu
    simp at hu
    obtain ⟨y,_,rfl⟩:=hu
    rfl
  · intro g cap w' h1 h2 h3 h4
    exact h g cap w' (by simpa using h1) h2 h3 h4
set_option maxRecDepth 100000 in
set_option maxHeartbeats 400000 in
theorem whole_high (O:Nat → Prop) (b n code high:Nat) (c0 c1 c2 c3 c4 c5 c6 c7 ch dg tk:Value) (A:Option Addr) (cap:Nat) (says:List UInt8) (w:World)
    (hb:Blk w b 80 #[c0,c1,c2,c3,c4,c5,c6,c7,ch,.slice A n cap,dg,.int .i32 (code:Nat),.int .i32 (high:Nat),tk]) (hr:Row O w (.slice A n cap) says) (hn:says.length = n) (hn4:n ≤ 100000000)
    (hh:55296 ≤ high ∧ high ≤ 56319) (hc:56320 ≤ code ∧ code ≤ 57343) :
    Calls Tryz.prog 101 #[.pointer (some ⟨b,0,none⟩)] w fun e w'=>e = .returned (.tuple #[]) ∧
      (∃ sy',Blk w' b 80 #[c0,c1,c2,fWit,c4,c5,c6,c7,ch,sy',dg,.int .i32 (code:Nat),.int .i32 0,tk] ∧ Row (up O w) w' sy' (says ++ enc (65536 + (high - 55296) * 1024 + (code - 56320)))) ∧
      Fr (fun k=>k = b ∨ (Value.slice A n cap).ownBlock = some k) w w':=by
  have k3:=hb.cell 3
  have f3:=hb.frozen 3
  have k9:=hb.cell 9
  have f9:=hb.frozen 9
  have k11:=hb.cell 11
  have k12:=hb.cell 12
  have f12:=hb.frozen 12
  simp at k3 k9 k11 k12
  obtain ⟨a,ha⟩:∃ a,high - 55296 = a:=⟨_,rfl⟩
  obtain ⟨r,hrr⟩:∃ r,65536 + a * 1024 + (code - 56320) = r:=⟨_,rfl⟩
  rw [ha,hrr]
  have e0:((high:Int) != 0) = true:=by rw [bne_iff_ne];omega
  have e1:(high:Int) - 55296 = (a:Int):=by omega
  have ha1:a < 1024:=by omega
  have hsc:Scal r:=by unfold Scal;omega
  have e2:65536 + (a:Int) * 1024 + (code:Int) - 56320 = (r:Int):=by omega
  have e3:decide (55296 ≤ (r:Int)) = true:=by rw [decide_eq_true_iff];omega
  have e4:decide ((r:Int) ≤ 56319) = false:=by rw [decide_eq_false_iff_not];omega
  have HE:=Lib.hid (fun W=>(encode_any (r:Int) W).mono (fun e w' h=>h.2 r rfl hsc))
  have hb12:=(hb.set1 12 (.int .i32 0)).drew
  have hfr0:Fr (fun k=>k = b) w (w.setCell ⟨b,12,none⟩ (.int .i32 0)).drew:=((Fr.refl (fun k=>k = b) w).setCell (p:=⟨b,12,none⟩) (show b = b from rfl) _).drew
  have hr0:Row O (w.setCell ⟨b,12,none⟩ (.int .i32 0)).drew (.slice A n cap) says:=hr.set hb 12 (.int .i32 0)
  have hlen:=enc_le r
  have hpos:0 < (enc r).length:=by rw [enc_length];(repeat' split) <;> omega
  obtain ⟨d,hd⟩:∃ d,(enc r).length = d:=⟨_,rfl⟩
  have HD:=Lib.hid (And.intro hd (And.intro (hd ▸ hlen) (hd ▸ hpos)))
  have HB12:=Lib.hid hb12
  have HFR0:=Lib.hid hfr0
  have HR0:=Lib.hid hr0
  have HN:=Lib.hid hn
  have hsz:(w.setCell ⟨b,12,none⟩ (.int .i32 0)).drew.heap.size = w.heap.size:=by simp [World.setCell]
  have HSZ:=Lib.hid hsz
  have ha9:(w.setCell ⟨b,12,none⟩ (.int .i32 0)).drew.cell? ⟨b,9,none⟩ = some (.slice A n cap):=by rw [hb12.cell];rfl
  clear hb12 hfr0 hr0 hb hr hn hlen hpos hd ha hrr hh hsz
  go_enter Tryz.func101,Tryz.ntmps101
  go_wp2
  go_region
  go_wp2_with fail
  refine (HE.out _).mono ?_
  rintro e w1 ⟨v,rfl,l,rfl,hl1,hl2,hl3,hbm,hbe⟩
  have hb1:=HB12.out.below hbe HB12.out.lt
  have k9:=hb1.cell 9
  simp at k9
  have hr1:=HR0.out.keep (fun k hk=>hbe.block k (own_lt HR0.out.1 k hk))
  have HB1:=Lib.hid hb1
  have HR1:=Lib.hid hr1
  have hce:∀ j,(hj:j < (enc r).length) → w1.cell? ⟨w.heap.size,j,none⟩ = some (bv (enc r)[j]):=fun j hj=>by
    have:=hbm.cell j (by omega)
    have e1:l[j]'(by omega) = (enc r)[j]:=by
      have h1:=congrArg (fun x=>x[j]?) hl1
      simp [List.getElem?_take,hj] at h1
      rw [List.getElem?_eq_getElem (by omega)] at h1
      exact Option.some.inj h1
    rw [e1] at this
    simpa using this
  have HCE:=Lib.hid hce
  have hown:=hr1.1
  rw [HN.out] at hown
  have HON:=Lib.hid hown
  have HBE:=Lib.hid hbe
  rw [HD.out.1]
  clear hb1 hr1 hce hown hbe hl1 hl2 hl3 hbm ha9
  go_wp2_with (at_builtin;refine wpList_pushn rfl (.tmp 61) (.tmp 62) rfl (.slice A n cap) n says rfl HON.out w.heap.size d _ rfl (enc r) HD.out.1 HD.out.2.2 (by have:=HD.out.2.1;omega) HCE.out (by omega) ?_;intro g2 cap2 w2 hown1 hg1 hat1 hlt1;obtain ⟨hbw,hpk⟩:=push_pack (Below.refl _ w1) HB1.out HR1.out HN.out (l2:=enc r) HD.out.1 hown1 hg1 hat1;have f9:=hbw.frozen 9;have k9':=hbw.cell 9;have HPK:=Lib.hid (hpk 9 (.slice (some ⟨g2,0,none⟩) (n + d) cap2));have f3:=HPK.out.1.frozen 3;have k3':=HPK.out.1.cell 3;simp at k9' k3';clear hpk hbw hown1 hg1 hat1)
  go_end0
  obtain ⟨p1,p2,p3⟩:=HPK.out
  simp at p1
  have q1:=p1.set1 3 fWit
  simp at q1
  refine ⟨rfl,⟨_,q1,?_⟩,?_⟩
  · exact (p2.set p1 3 fWit).mono (fun k hk=>by
      rcases hk with hk | hk
      · exact .inl hk
      · exact .inr (by have:=HBE.out.size;have:=HSZ.out;omega))
  · exact ((HFR0.out.mono (fun k _ hk=>.inl hk)).below HBE.out).trans (p3.setCell (p:=⟨b,3,none⟩) (.inl rfl) _)
set_option maxRecDepth 100000 in
set_option maxHeartbeats 400000 in
theorem whole_low (O:Nat → Prop) (b n code:Nat) (c0 c1 c2 c3 c4 c5 c6 c7 ch dg tk:Value) (A:Option Addr) (cap:Nat) (says:List UInt8) (w:World)
    (hb:Blk w b 80 #[c0,c1,c2,c3,c4,c5,c6,c7,ch,.slice A n cap,dg,.int .i32 (code:Nat),.int .i32 0,tk]) (hr:Row O w (.slice A n cap) says) (hn:says.length = n) (hn4:n ≤ 100000000)
    (hc:¬ (55296 ≤ code ∧ code ≤ 56319)) (hsc:Scal code) :
    Calls Tryz.prog 101 #[.pointer (some ⟨b,0,none⟩)] w fun e w'=>e = .returned (.tuple #[]) ∧
      (∃ sy',Blk w' b 80 #[c0,c1,c2,fWit,c4,c5,c6,c7,ch,sy',dg,.int .i32 (code:Nat),.int .i32 0,tk] ∧ Row (up O w) w' sy' (says ++ enc code)) ∧
      Fr (fun k=>k = b ∨ (Value.slice A n cap).ownBlock = some k) w w':=by
  have k11:=hb.cell 11
  have k12:=hb.cell 12
  simp at k11 k12
  have e3:decide (55296 ≤ (code:Int)) = false ∨ (decide (55296 ≤ (code:Int)) = true ∧ decide ((code:Int) ≤ 56319) = false):=by
    rcases Nat.lt_or_ge code 55296 with h | h
    · left;rw [decide_eq_false_iff_not];omega
    · right;refine ⟨by rw [decide_eq_true_iff];omega,by rw [decide_eq_false_iff_not];omega⟩
  have HE:=Lib.hid (fun W=>(encode_any (code:Int) W).mono (fun e w' h=>h.2 code rfl hsc))
  have hlen:=enc_le code
  have hpos:0 < (enc code).length:=by rw [enc_length];(repeat' split) <;> omega
  obtain ⟨d,hd⟩:∃ d,(enc code).length = d:=⟨_,rfl⟩
  have HD:=Lib.hid (And.intro hd (And.intro (hd ▸ hlen) (hd ▸ hpos)))
  have HB0:=Lib.hid hb
  have HR0:=Lib.hid hr
  have HN:=Lib.hid hn
  clear hb hr hn hlen hpos hd hc hsc
  rcases e3 with e3 | ⟨e3,e4⟩ <;>
  ( go_enter Tryz.func101,Tryz.ntmps101
    go_wp2_with fail
    refine (HE.out _).mono ?_
    rintro e w1 ⟨v,rfl,l,rfl,hl1,hl2,hl3,hbm,hbe⟩
    have hb1:=HB0.out.below hbe HB0.out.lt
    have k9:=hb1.cell 9
    simp at k9
    have hr1:=HR0.out.keep (fun k hk=>hbe.block k (own_lt HR0.out.1 k hk))
    have HB1:=Lib.hid hb1
    have HR1:=Lib.hid hr1
    have hce:∀ j,(hj:j < (enc code).length) → w1.cell? ⟨w.heap.size,j,none⟩ = some (bv (enc code)[j]):=fun j hj=>by
      have:=hbm.cell j (by omega)
      have e1:l[j]'(by omega) = (enc code)[j]:=by
        have h1:=congrArg (fun x=>x[j]?) hl1
        simp [List.getElem?_take,hj] at h1
        rw [List.getElem?_eq_getElem (by omega)] at h1
        exact Option.some.inj h1
      rw [e1] at this
      simpa using this
    have HCE:=Lib.hid hce
    have hown:=hr1.1
    rw [HN.out] at hown
    have HON:=Lib.hid hown
    have HBE:=Lib.hid hbe
    rw [HD.out.1]
    clear hb1 hr1 hce hown hbe hl1 hl2 hl3 hbm
    go_wp2_with (at_builtin;refine wpList_pushn rfl (.tmp 61) (.tmp 62) rfl (.slice A n cap) n says rfl HON.out w.heap.size d _ rfl (enc code) HD.out.1 HD.out.2.2 (by have:=HD.out.2.1;omega) HCE.out (by omega) ?_;intro g2 cap2 w2 hown1 hg1 hat1 hlt1;obtain ⟨hbw,hpk⟩:=push_pack (Below.refl _ w1) HB1.out HR1.out HN.out (l2:=enc code) HD.out.1 hown1 hg1 hat1;have f9:=hbw.frozen 9;have k9':=hbw.cell 9;have HPK:=Lib.hid (hpk 9 (.slice (some ⟨g2,0,none⟩) (n + d) cap2));have f3:=HPK.out.1.frozen 3;have k3':=HPK.out.1.cell 3;simp at k9' k3';clear hpk hbw hown1 hg1 hat1)
    go_end0
    obtain ⟨p1,p2,p3⟩:=HPK.out
    simp at p1
    have q1:=p1.set1 3 fWit
    simp at q1
    refine ⟨rfl,⟨_,q1,?_⟩,?_⟩
    · exact (p2.set p1 3 fWit).mono (fun k hk=>by
        rcases hk with hk | hk
        · exact .inl hk
        · exact .inr (by have:=HBE.out.size;omega))
    · exact (Fr.of_below HBE.out).trans (p3.setCell (p:=⟨b,3,none⟩) (.inl rfl) _) )
set_option maxRecDepth 100000 in
theorem whole_mid (b code:Nat) (c0 c1 c2 c3 c4 c5 c6 c7 ch sy dg tk:Value) (w:World)
    (hb:Blk w b 80 #[c0,c1,c2,c3,c4,c5,c6,c7,ch,sy,dg,.int .i32 (code:Nat),.int .i32 0,tk]) (hc:55296 ≤ code ∧ code ≤ 56319) :
    Calls Tryz.prog 101 #[.pointer (some ⟨b,0,none⟩)] w fun e w'=>e = .returned (.tuple #[]) ∧
      w' = (w.setCell ⟨b,12,none⟩ (.int .i32 (code:Nat))).setCell ⟨b,3,none⟩ fSla:=by
  have k11:=hb.cell 11
  have k12:=hb.cell 12
  have f12:=hb.frozen 12
  have k3:=hb.cell 3
  have f3:=hb.frozen 3
  simp at k3 k11 k12
  have e3:decide (55296 ≤ (code:Int)) = true:=by rw [decide_eq_true_iff];omega
  have e4:decide ((code:Int) ≤ 56319) = true:=by rw [decide_eq_true_iff];omega
  clear hb hc
  go_enter Tryz.func101,Tryz.ntmps101
  go_wp2
  refine bodyPost_ret (results_none rfl _ _ _) rfl ?_
  exact ⟨rfl,rfl⟩
end Go.Proofs.YtgmholdkdppbmaaGreatDoor.Lx

namespace Go.Proofs.YtgmholdkdppbmaaGreatDoor.Lx
open Go.RowKit
set_option maxRecDepth 100000 in
set_option maxHeartbeats 1000000 in
theorem digit_anyG (O:Nat → Prop) (b P:Nat) (er dn:Value) (ts:List Tok) (c:UInt8) (fr:Nat) (says:List UInt8) (n code high:Nat) (w:World) (h:LxMG O w b P P er dn (.dig fr says n code high) ts) (hP:P < 16777216) :
    Calls Tryz.prog 80 #[.pointer (some ⟨b,0,none⟩),.int .u8 (c.toNat:Int)] w (StPG O w b P er dn ts (step flP P (.dig fr says n code high) c)):=by
  have hok:=fun m' t=>step_ok (fl:=flP) (c:=c) h.2.2.2.1 (m':=m') (t:=t)
  have hstep:step flP P (.dig fr says n code high) c = match hexv c with
    | none=>if high = 0 then .bad 92 P [] else .bad 93 P []
    | some v=>if loneB (high != 0) n code v = true then .bad 93 P []
      else if n = 3 then .go (wholeS fr says (16 * code + v) high) [] else .go (.dig fr says (n + 1) (16 * code + v) high) []:=rfl
  rw [hstep] at hok ⊢
  obtain ⟨h1,h2,h3,h4,sv,inn,frv,raw,nm,ch,sy,dg,cd,hg,tk,h5,h6,h7⟩:=h
  obtain ⟨rfl,rfl,rfl,rfl,hr,hf,rfl,rfl,rfl⟩:=h6
  obtain ⟨m1,m2,m3⟩:=h4
  have hn3:n ≤ 3:=by have:=m3.2;omega
  have hc4:code < 4096:=by have:=m3.2;omega
  have hhb:high ≤ 56319:=by have:=m3.1;omega
  have HV:=Lib.hid (fun W=>value_any c W)
  have k12:=h5.cell 12
  simp at k12
  cases hv:hexv c with
  | none =>
    have hV:hexV c = -1:=by unfold hexV;rw [hv]
    rw [hV] at HV
    have HP:=Lib.hid (And.intro h1 (And.intro h3 (And.intro h5 h7)))
    simp only []
    clear hok hstep h1 h3 h5 h7 hr hf m1 m2 m3 hv hV
    by_cases hh:high = 0
    · rw [if_pos hh]
      subst hh
      go_enter Tryz.func80,Tryz.ntmps80
      go_wp2_with fail
      refine (HV.out _).mono ?_
      rintro e w' ⟨rfl,rfl⟩
      go_wp2_with fail
      go_ret
      obtain ⟨h1,h3,h5,h7⟩:=HP.out
      exact ⟨rfl,by decide,by decide,⟨.inl h1,by omega,by simp at h3 ⊢;omega,.inr rfl,_,_,_,_,_,_,_,_,_,_,_,h5,fun h=>(by omega),by rw [List.append_nil];exact h7.mono up_of⟩,Fr.refl _ _⟩
    · rw [if_neg hh]
      have e1:((high:Int) == 0) = false:=by rw [beq_eq_false_iff_ne];omega
      clear hh
      go_enter Tryz.func80,Tryz.ntmps80
      go_wp2_with fail
      refine (HV.out _).mono ?_
      rintro e w' ⟨rfl,rfl⟩
      go_wp2_with fail
      go_ret
      obtain ⟨h1,h3,h5,h7⟩:=HP.out
      exact ⟨rfl,by decide,by decide,⟨.inl h1,by omega,by simp at h3 ⊢;omega,.inr rfl,_,_,_,_,_,_,_,_,_,_,_,h5,fun h=>(by omega),by rw [List.append_nil];exact h7.mono up_of⟩,Fr.refl _ _⟩
  | some v =>
    have hV:hexV c = (v:Int):=by unfold hexV;rw [hv]
    have hv16:=hexv_lt hv
    rw [hv] at hok
    rw [hV] at HV
    simp only [] at hok ⊢
    have e0:decide ((v:Int) < 0) = false:=by rw [decide_eq_false_iff_not];omega
    have HL:=Lib.hid (lone_any b n code high v _ _ _ _ _ _ _ _ _ _ _ w h5 hn3 hv16)
    by_cases hl:loneB (high != 0) n code v = true
    · rw [if_pos hl]
      rw [hl] at HL
      have HP:=Lib.hid (And.intro h1 (And.intro h3 (And.intro h5 h7)))
      clear hok hstep h1 h3 h5 h7 hr hf m1 m2 m3 hv hV hl
      go_enter Tryz.func80,Tryz.ntmps80
      go_wp2_with fail
      refine (HV.out _).mono ?_
      rintro e w' ⟨rfl,rfl⟩
      go_wp2_with fail
      refine HL.out.mono ?_
      rintro e w' ⟨rfl,rfl⟩
      go_wp2_with fail
      go_ret
      obtain ⟨h1,h3,h5,h7⟩:=HP.out
      exact ⟨rfl,by decide,by decide,⟨.inl h1,by omega,by simp at h3 ⊢;omega,.inr rfl,_,_,_,_,_,_,_,_,_,_,_,h5,fun h=>(by omega),by rw [List.append_nil];exact h7.mono up_of⟩,Fr.refl _ _⟩
    · rw [if_neg hl] at hok ⊢
      have hlf:loneB (high != 0) n code v = false:=by simpa using hl
      rw [hlf] at HL
      have k10:=h5.cell 10
      have k11:=h5.cell 11
      have f10:=h5.frozen 10
      have f11:=h5.frozen 11
      simp at k10 k11
      have hor:=or_i32 code v (by omega) hv16
      obtain ⟨x,hx⟩:∃ x,16 * code + v = x:=⟨_,rfl⟩
      rw [hx] at hor hok ⊢
      have hxb:x < 65536:=by omega
      have b1:=h5.set1 11 (.int .i32 (x:Nat))
      have b2:=b1.set1 10 (.int .i64 ((n:Int) + 1))
      simp at b2
      have r2:=(hr.set h5 11 (.int .i32 (x:Nat))).set b1 10 (.int .i64 ((n:Int) + 1))
      have t2:=(h7.set h5 11 (.int .i32 (x:Nat))).set b1 10 (.int .i64 ((n:Int) + 1))
      have d2:=(hf.set h5 11 (.int .i32 (x:Nat))).set b1 10 (.int .i64 ((n:Int) + 1))
      have f2:Fr O w ((w.setCell ⟨b,11,none⟩ (.int .i32 (x:Nat))).setCell ⟨b,10,none⟩ (.int .i64 ((n:Int) + 1))):=((Fr.refl O w).setCell (p:=⟨b,11,none⟩) h1 _).setCell (p:=⟨b,10,none⟩) h1 _
      have HP:=Lib.hid (And.intro h1 (And.intro h3 (And.intro b2 (And.intro t2 (And.intro r2 (And.intro d2 f2))))))
      by_cases hn:n = 3
      · rw [if_pos hn] at hok ⊢
        subst hn
        have HOK:=Lib.hid (hok _ _ rfl).1
        have HW:=Lib.hid (whole_scal m3 hv16)
        rw [hx] at HW
        have HM:=Lib.hid m3.1
        have HM2:=Lib.hid m2
        clear hok hstep h1 h3 h5 h7 hr hf m1 m2 m3 hv hV hl hlf b1 b2 r2 t2 d2 f2 hx
        go_enter Tryz.func80,Tryz.ntmps80
        go_wp2_with fail
        refine (HV.out _).mono ?_
        rintro e w' ⟨rfl,rfl⟩
        go_wp2_with fail
        refine HL.out.mono ?_
        rintro e w' ⟨rfl,rfl⟩
        go_wp2_with fail
        obtain ⟨h1,h3,b2,t2,r2,d2,f2⟩:=HP.out
        obtain ⟨w1,hw1⟩:∃ w1,(w.setCell ⟨b,11,none⟩ (.int .i32 (x:Nat))).setCell ⟨b,10,none⟩ (.int .i64 (((3:Nat):Int) + 1)) = w1:=⟨_,rfl⟩
        have hw1':(w.setCell ⟨b,11,none⟩ (.int .i32 (x:Nat))).setCell ⟨b,10,none⟩ (.int .i64 4) = w1:=hw1
        rw [hw1] at b2 t2 r2 d2 f2
        rw [hw1']
        have b2':Blk w1 b 80 #[.int .i64 (P:Nat),er,dn,fDig,.bool true,.int .i64 (fr:Nat),raw,.int .i64 0,ch,sy,.int .i64 4,.int .i32 (x:Nat),.int .i32 (high:Nat),tk]:=b2
        obtain ⟨A,cap,rfl,_⟩:=own_shape r2.1
        obtain ⟨n,hn⟩:∃ n,says.length = n:=⟨_,rfl⟩
        have hn4:n ≤ 100000000:=by have:=HM2.out;omega
        rw [hn] at b2' r2
        have hsz:w.heap.size ≤ w1.heap.size:=f2.size
        have hOO:∀ k,up O w1 k → up O w k:=fun k hk=>by
          rcases hk with hk | hk
          · exact .inl hk
          · exact .inr (by omega)
        have HB:=Lib.hid b2'
        have HR:=Lib.hid r2
        have HT:=Lib.hid t2
        have HD:=Lib.hid d2
        have HF:=Lib.hid f2
        have HO:=Lib.hid hOO
        have HN:=Lib.hid hn
        have H13:=Lib.hid (And.intro h1 h3)
        clear h1 h3 b2 t2 r2 d2 f2 b2' hw1 hw1' hOO hn HP
        by_cases hh:high = 0
        · subst hh
          by_cases hm:55296 ≤ x ∧ x ≤ 56319
          · refine (whole_mid b x _ _ _ _ _ _ _ _ _ _ _ _ w1 HB.out hm).mono ?_
            rintro e w2 ⟨rfl,rfl⟩
            go_wp2_with fail
            go_ret
            have q1:=HB.out.set1 12 (.int .i32 (x:Nat))
            have q2:=q1.set1 3 fSla
            have r3:=(HR.out.set HB.out 12 (.int .i32 (x:Nat))).set q1 3 fSla
            have t3:=(HT.out.set HB.out 12 (.int .i32 (x:Nat))).set q1 3 fSla
            have d3:=(HD.out.set HB.out 12 (.int .i32 (x:Nat))).set q1 3 fSla
            simp at q2
            have hw:wholeS fr says x 0 = .sla fr says x:=by unfold wholeS;rw [if_neg (by simp),if_pos hm]
            have hok:=HOK.out
            rw [hw] at hok ⊢
            have h3:=H13.out.2
            refine ⟨rfl,⟨.inl H13.out.1,by omega,by simp at h3 ⊢;omega,hok,_,_,_,_,_,_,_,_,_,_,_,q2,⟨rfl,rfl,rfl,rfl,r3.mono up_of,d3.mono up_of (by omega),rfl⟩,?_⟩,(HF.out.setCell (p:=⟨b,12,none⟩) H13.out.1 _).setCell (p:=⟨b,3,none⟩) H13.out.1 _⟩
            rw [List.append_nil]
            exact t3.mono up_of
          · refine (whole_low O b n x _ _ _ _ _ _ _ _ _ _ _ A cap says w1 HB.out HR.out HN.out hn4 hm (HW.out.2 rfl hm)).mono ?_
            rintro e w2 ⟨rfl,⟨sy',g1,g2⟩,g3⟩
            go_wp2_with fail
            go_ret
            have hw:wholeS fr says x 0 = .txt fr (says ++ enc x) []:=by unfold wholeS;rw [if_neg (by simp),if_neg hm]
            have hok:=HOK.out
            rw [hw] at hok ⊢
            have h3:=H13.out.2
            refine ⟨rfl,⟨.inl H13.out.1,by omega,by simp at h3 ⊢;omega,hok,_,_,_,_,_,_,_,_,_,_,_,g1,⟨rfl,rfl,rfl,rfl,g2.mono HO.out,(fdr_fr g3 HB.out HR.out.1 HD.out).mono up_of (by omega),rfl⟩,?_⟩,HF.out.trans (g3.mono (fun k _ hk=>by
              rcases hk with rfl | hk
              · exact H13.out.1
              · exact HR.out.2 k hk))⟩
            rw [List.append_nil]
            exact (trow_frG g3 HB.out HR.out.1 HT.out).mono up_of
        · have hhm:55296 ≤ high ∧ high ≤ 56319:=by have:=HM.out;omega
          have hwx:=HW.out.1 hh
          refine (whole_high O b n x high _ _ _ _ _ _ _ _ _ _ _ A cap says w1 HB.out HR.out HN.out hn4 hhm ⟨hwx.1,hwx.2.1⟩).mono ?_
          rintro e w2 ⟨rfl,⟨sy',g1,g2⟩,g3⟩
          go_wp2_with fail
          go_ret
          have hw:wholeS fr says x high = .txt fr (says ++ enc (65536 + (high - 55296) * 1024 + (x - 56320))) []:=by unfold wholeS;rw [if_pos hh]
          have hok:=HOK.out
          rw [hw] at hok ⊢
          have h3:=H13.out.2
          refine ⟨rfl,⟨.inl H13.out.1,by omega,by simp at h3 ⊢;omega,hok,_,_,_,_,_,_,_,_,_,_,_,g1,⟨rfl,rfl,rfl,rfl,g2.mono HO.out,(fdr_fr g3 HB.out HR.out.1 HD.out).mono up_of (by omega),rfl⟩,?_⟩,HF.out.trans (g3.mono (fun k _ hk=>by
            rcases hk with rfl | hk
            · exact H13.out.1
            · exact HR.out.2 k hk))⟩
          rw [List.append_nil]
          exact (trow_frG g3 HB.out HR.out.1 HT.out).mono up_of
      · rw [if_neg hn] at hok ⊢
        have HOK:=Lib.hid (hok _ _ rfl).1
        have e3:((n:Int) + 1 == 4) = false:=by rw [beq_eq_false_iff_ne];omega
        clear hok hstep h1 h3 h5 h7 hr hf m1 m2 m3 hv hV hl hlf b1 b2 r2 t2 d2 f2 hx
        go_enter Tryz.func80,Tryz.ntmps80
        go_wp2_with fail
        refine (HV.out _).mono ?_
        rintro e w' ⟨rfl,rfl⟩
        go_wp2_with fail
        refine HL.out.mono ?_
        rintro e w' ⟨rfl,rfl⟩
        go_wp2_with fail
        go_ret
        obtain ⟨h1,h3,b2,t2,r2,d2,f2⟩:=HP.out
        refine ⟨rfl,⟨.inl h1,by omega,by simp at h3 ⊢;omega,HOK.out,_,_,_,_,_,_,_,_,_,_,_,b2,⟨rfl,rfl,rfl,rfl,r2.mono up_of,d2.mono up_of (by omega),rfl,rfl,rfl⟩,?_⟩,f2⟩
        rw [List.append_nil]
        exact t2.mono up_of
end Go.Proofs.YtgmholdkdppbmaaGreatDoor.Lx

namespace Go.Proofs.YtgmholdkdppbmaaGreatDoor.Lx
open Go.RowKit
attribute [local go_sem] SGives_value SGives_skip SGives_enter CGives_value CGives_skip CGives_enter MGives_value MGives_skip MGives_enter
attribute [local go_sem ↓] Go.wp_at_zero Go.wp_at_succ
theorem up_up2 {O:Nat → Prop} {w w':World} (hs:w.heap.size ≤ w'.heap.size) (k:Nat) (h:up O w' k):up O w k:=by
  rcases h with h | h
  · exact .inl h
  · exact .inr (by omega)
end Go.Proofs.YtgmholdkdppbmaaGreatDoor.Lx

namespace Go.Proofs.YtgmholdkdppbmaaGreatDoor.Lx
open Go.RowKit
attribute [local go_sem] SGives_value SGives_skip SGives_enter CGives_value CGives_skip CGives_enter MGives_value MGives_skip MGives_enter
attribute [local go_sem ↓] Go.wp_at_zero Go.wp_at_succ
set_option maxRecDepth 100000 in
set_option maxHeartbeats 1000000 in
theorem within_headG (O:Nat → Prop) (b P:Nat) (er dn:Value) (ts:List Tok) (c:UInt8) (fr:Nat) (says:List UInt8) (w:World) (h:LxMG O w b P P er dn (.txt fr says []) ts) (hP:P < 16777216) (hc:c = 34 ∨ c = 92 ∨ c.toNat < 32) :
    Calls Tryz.prog 51 #[.pointer (some ⟨b,0,none⟩),.int .u8 (c.toNat:Int)] w (StPG O w b P er dn ts (step flP P (.txt fr says []) c)):=by
  have hok:=fun m' t=>step_ok (fl:=flP) (c:=c) h.2.2.2.1 (m':=m') (t:=t)
  obtain ⟨h1,h2,h3,h4,sv,inn,frv,raw,nm,ch,sy,dg,cd,hg,tk,h5,h6,h7⟩:=h
  obtain ⟨rfl,rfl,rfl,rfl,hr,hf,rfl⟩:=h6
  obtain ⟨m1,m2,m3⟩:=h4
  obtain ⟨g,f,rfl,f1,f2,f3,f4,f5,f6⟩:=hf
  have HH:=Lib.hid (held_of g f w f1)
  rw [f2] at HH
  have k8:=h5.cell 8
  have k0:=h5.cell 0
  simp at k8 k0
  obtain ⟨A,cap,rfl,_⟩:=own_shape hr.1
  obtain ⟨n,hn⟩:∃ n,says.length = n:=⟨_,rfl⟩
  rw [hn] at h5 hr
  have HP:=Lib.hid (And.intro h1 (And.intro h3 (And.intro h5 (And.intro h7 (And.intro hr (show Fdr O w P (.pointer (some ⟨g,0,none⟩)) [] from ⟨g,f,rfl,f1,f2,f3,f4,f5,f6⟩))))))
  have HN:=Lib.hid hn
  obtain ⟨P1,hP1⟩:∃ P1,P + 1 = P1:=⟨_,rfl⟩
  have hsum:(P:Int) + 1 = ((P1:Nat):Int):=by omega
  have hP1b:P1 ≤ 16777217:=by omega
  have hf1:fr ≤ P1:=by omega
  have HP1:=Lib.hid hP1
  have hwr:IntKind.i64.wrap ((P1:Nat):Int) = ((P1:Nat):Int):=IntWalk.i64_in _ (by omega)
  rcases hc with rfl | hc
  · have hs:step flP P (.txt fr says []) 34 = .go .out [⟨fr,P + 1 - fr,.str says⟩]:=by simp [step]
    rw [hs]
    rw [show (((34:UInt8).toNat:Nat):Int) = 34 from rfl]
    have HSP:Hid (∀ W,Blk W b 80 #[.int .i64 (P:Nat),er,dn,fWit,.bool true,.int .i64 (fr:Nat),raw,.int .i64 0,.pointer (some ⟨g,0,none⟩),.slice A n cap,dg,cd,.int .i32 0,tk] →
        Calls Tryz.prog 48 #[.pointer (some ⟨b,0,none⟩),.int .i64 ((P1:Nat):Int)] W fun e w'=>e = .returned (.agg #[.int .i64 (fr:Nat),.int .i64 ((P1 - fr:Nat):Int)]) ∧ Below W.heap.size W w') :=
      Lib.hid (fun W hW=>span_any b _ _ _ _ _ _ _ _ _ _ _ _ _ fr P1 W hW hf1 (by omega))
    have HSTR:Hid (∀ W,Below w.heap.size w W → (convert 22 9 (.slice A n cap)).run Tryz.prog W = .ok (.string ⟨says.toArray⟩) W):=Lib.hid (fun W hW=>by
      have h':=(hr.keep (fun k hk=>hW.block k (own_lt hr.1 k hk))).1
      rw [hn] at h'
      exact str_of_RB (RB.of_own h') cap)
    clear h1 h3 h5 h7 hr m1 m2 m3 f1 f2 f3 f4 f5 f6 hok hs hn hP1 k0
    go_enter Tryz.func51,Tryz.ntmps51
    go_wp2_with fail
    refine HH.out.mono ?_
    rintro e w' ⟨rfl,rfl⟩
    go_wp2_with fail
    obtain ⟨S,SD⟩:∃ S:World → Prop,Go.RowKit.Hid (∀ w':World,S w' ↔ Below w.heap.size w w'):=⟨_,Lib.hid (fun _=>Iff.rfl)⟩
    refine wp_region_way (S:=S) (by kernel_rfl) (by kernel_rfl) (fun W W' h hb=>(SD.out _).2 (keepb ((SD.out _).1 h) hb)) ((SD.out _).2 (Below.refl _ w).drew) ?_
    first
      | (refine Way.no 0 (by rfl) (by kernel_rfl) (by rfl) ?_;simp only [Act.put,List.setIfInBounds_toArray,List.set_cons_zero,List.set_cons_succ])
      | (refine' Way.yes 0 (by rfl) (by kernel_rfl) (by rfl) (fun wS hS=>?_) ?_
         rotate_left
         · have hB:=(SD.out _).1 hS
           have hbS:=HP.out.2.2.1.below hB HP.out.2.2.1.lt
           have s0:=hbS.cell 0
           have s9:=hbS.cell 9
           simp at s0 s9
           have hs:=HSTR.out _ hB
           go_simp
           first
             | exact ⟨rfl,Below.refl _ _⟩
             | (with_reducible refine (HSP.out _ hbS).mono ?_;rintro e wX ⟨rfl,hb⟩;exact ⟨rfl,hb⟩)
         simp only [Act.put,List.setIfInBounds_toArray,List.set_cons_zero,List.set_cons_succ])
    first
      | (refine Way.no 1 (by rfl) (by kernel_rfl) (by rfl) ?_;simp only [Act.put,List.setIfInBounds_toArray,List.set_cons_zero,List.set_cons_succ])
      | (refine' Way.yes 1 (by rfl) (by kernel_rfl) (by rfl) (fun wS hS=>?_) ?_
         rotate_left
         · have hB:=(SD.out _).1 hS
           have hbS:=HP.out.2.2.1.below hB HP.out.2.2.1.lt
           have s0:=hbS.cell 0
           have s9:=hbS.cell 9
           simp at s0 s9
           have hs:=HSTR.out _ hB
           go_simp
           first
             | exact ⟨rfl,Below.refl _ _⟩
             | (with_reducible refine (HSP.out _ hbS).mono ?_;rintro e wX ⟨rfl,hb⟩;exact ⟨rfl,hb⟩)
         simp only [Act.put,List.setIfInBounds_toArray,List.set_cons_zero,List.set_cons_succ])
    first
      | (refine Way.no 2 (by rfl) (by kernel_rfl) (by rfl) ?_;simp only [Act.put,List.setIfInBounds_toArray,List.set_cons_zero,List.set_cons_succ])
      | (refine' Way.yes 2 (by rfl) (by kernel_rfl) (by rfl) (fun wS hS=>?_) ?_
         rotate_left
         · have hB:=(SD.out _).1 hS
           have hbS:=HP.out.2.2.1.below hB HP.out.2.2.1.lt
           have s0:=hbS.cell 0
           have s9:=hbS.cell 9
           simp at s0 s9
           have hs:=HSTR.out _ hB
           go_simp
           first
             | exact ⟨rfl,Below.refl _ _⟩
             | (with_reducible refine (HSP.out _ hbS).mono ?_;rintro e wX ⟨rfl,hb⟩;exact ⟨rfl,hb⟩)
         simp only [Act.put,List.setIfInBounds_toArray,List.set_cons_zero,List.set_cons_succ])
    first
      | (refine Way.no 3 (by rfl) (by kernel_rfl) (by rfl) ?_;simp only [Act.put,List.setIfInBounds_toArray,List.set_cons_zero,List.set_cons_succ])
      | (refine' Way.yes 3 (by rfl) (by kernel_rfl) (by rfl) (fun wS hS=>?_) ?_
         rotate_left
         · have hB:=(SD.out _).1 hS
           have hbS:=HP.out.2.2.1.below hB HP.out.2.2.1.lt
           have s0:=hbS.cell 0
           have s9:=hbS.cell 9
           simp at s0 s9
           have hs:=HSTR.out _ hB
           go_simp
           first
             | exact ⟨rfl,Below.refl _ _⟩
             | (with_reducible refine (HSP.out _ hbS).mono ?_;rintro e wX ⟨rfl,hb⟩;exact ⟨rfl,hb⟩)
         simp only [Act.put,List.setIfInBounds_toArray,List.set_cons_zero,List.set_cons_succ])
    first
      | (refine Way.no 4 (by rfl) (by kernel_rfl) (by rfl) ?_;simp only [Act.put,List.setIfInBounds_toArray,List.set_cons_zero,List.set_cons_succ])
      | (refine' Way.yes 4 (by rfl) (by kernel_rfl) (by rfl) (fun wS hS=>?_) ?_
         rotate_left
         · have hB:=(SD.out _).1 hS
           have hbS:=HP.out.2.2.1.below hB HP.out.2.2.1.lt
           have s0:=hbS.cell 0
           have s9:=hbS.cell 9
           simp at s0 s9
           have hs:=HSTR.out _ hB
           go_simp
           first
             | exact ⟨rfl,Below.refl _ _⟩
             | (with_reducible refine (HSP.out _ hbS).mono ?_;rintro e wX ⟨rfl,hb⟩;exact ⟨rfl,hb⟩)
         simp only [Act.put,List.setIfInBounds_toArray,List.set_cons_zero,List.set_cons_succ])
    first
      | (refine Way.no 5 (by rfl) (by kernel_rfl) (by rfl) ?_;simp only [Act.put,List.setIfInBounds_toArray,List.set_cons_zero,List.set_cons_succ])
      | (refine' Way.yes 5 (by rfl) (by kernel_rfl) (by rfl) (fun wS hS=>?_) ?_
         rotate_left
         · have hB:=(SD.out _).1 hS
           have hbS:=HP.out.2.2.1.below hB HP.out.2.2.1.lt
           have s0:=hbS.cell 0
           have s9:=hbS.cell 9
           simp at s0 s9
           have hs:=HSTR.out _ hB
           go_simp
           first
             | exact ⟨rfl,Below.refl _ _⟩
             | (with_reducible refine (HSP.out _ hbS).mono ?_;rintro e wX ⟨rfl,hb⟩;exact ⟨rfl,hb⟩)
         simp only [Act.put,List.setIfInBounds_toArray,List.set_cons_zero,List.set_cons_succ])
    first
      | (refine Way.no 6 (by rfl) (by kernel_rfl) (by rfl) ?_;simp only [Act.put,List.setIfInBounds_toArray,List.set_cons_zero,List.set_cons_succ])
      | (refine' Way.yes 6 (by rfl) (by kernel_rfl) (by rfl) (fun wS hS=>?_) ?_
         rotate_left
         · have hB:=(SD.out _).1 hS
           have hbS:=HP.out.2.2.1.below hB HP.out.2.2.1.lt
           have s0:=hbS.cell 0
           have s9:=hbS.cell 9
           simp at s0 s9
           have hs:=HSTR.out _ hB
           go_simp
           first
             | exact ⟨rfl,Below.refl _ _⟩
             | (with_reducible refine (HSP.out _ hbS).mono ?_;rintro e wX ⟨rfl,hb⟩;exact ⟨rfl,hb⟩)
         simp only [Act.put,List.setIfInBounds_toArray,List.set_cons_zero,List.set_cons_succ])
    first
      | (refine Way.no 7 (by rfl) (by kernel_rfl) (by rfl) ?_;simp only [Act.put,List.setIfInBounds_toArray,List.set_cons_zero,List.set_cons_succ])
      | (refine' Way.yes 7 (by rfl) (by kernel_rfl) (by rfl) (fun wS hS=>?_) ?_
         rotate_left
         · have hB:=(SD.out _).1 hS
           have hbS:=HP.out.2.2.1.below hB HP.out.2.2.1.lt
           have s0:=hbS.cell 0
           have s9:=hbS.cell 9
           simp at s0 s9
           have hs:=HSTR.out _ hB
           go_simp
           first
             | exact ⟨rfl,Below.refl _ _⟩
             | (with_reducible refine (HSP.out _ hbS).mono ?_;rintro e wX ⟨rfl,hb⟩;exact ⟨rfl,hb⟩)
         simp only [Act.put,List.setIfInBounds_toArray,List.set_cons_zero,List.set_cons_succ])
    first
      | (refine Way.no 8 (by rfl) (by kernel_rfl) (by rfl) ?_;simp only [Act.put,List.setIfInBounds_toArray,List.set_cons_zero,List.set_cons_succ])
      | (refine' Way.yes 8 (by rfl) (by kernel_rfl) (by rfl) (fun wS hS=>?_) ?_
         rotate_left
         · have hB:=(SD.out _).1 hS
           have hbS:=HP.out.2.2.1.below hB HP.out.2.2.1.lt
           have s0:=hbS.cell 0
           have s9:=hbS.cell 9
           simp at s0 s9
           have hs:=HSTR.out _ hB
           go_simp
           first
             | exact ⟨rfl,Below.refl _ _⟩
             | (with_reducible refine (HSP.out _ hbS).mono ?_;rintro e wX ⟨rfl,hb⟩;exact ⟨rfl,hb⟩)
         simp only [Act.put,List.setIfInBounds_toArray,List.set_cons_zero,List.set_cons_succ])
    first
      | (refine Way.no 9 (by rfl) (by kernel_rfl) (by rfl) ?_;simp only [Act.put,List.setIfInBounds_toArray,List.set_cons_zero,List.set_cons_succ])
      | (refine' Way.yes 9 (by rfl) (by kernel_rfl) (by rfl) (fun wS hS=>?_) ?_
         rotate_left
         · have hB:=(SD.out _).1 hS
           have hbS:=HP.out.2.2.1.below hB HP.out.2.2.1.lt
           have s0:=hbS.cell 0
           have s9:=hbS.cell 9
           simp at s0 s9
           have hs:=HSTR.out _ hB
           go_simp
           first
             | exact ⟨rfl,Below.refl _ _⟩
             | (with_reducible refine (HSP.out _ hbS).mono ?_;rintro e wX ⟨rfl,hb⟩;exact ⟨rfl,hb⟩)
         simp only [Act.put,List.setIfInBounds_toArray,List.set_cons_zero,List.set_cons_succ])
    first
      | (refine Way.no 10 (by rfl) (by kernel_rfl) (by rfl) ?_;simp only [Act.put,List.setIfInBounds_toArray,List.set_cons_zero,List.set_cons_succ])
      | (refine' Way.yes 10 (by rfl) (by kernel_rfl) (by rfl) (fun wS hS=>?_) ?_
         rotate_left
         · have hB:=(SD.out _).1 hS
           have hbS:=HP.out.2.2.1.below hB HP.out.2.2.1.lt
           have s0:=hbS.cell 0
           have s9:=hbS.cell 9
           simp at s0 s9
           have hs:=HSTR.out _ hB
           go_simp
           first
             | exact ⟨rfl,Below.refl _ _⟩
             | (with_reducible refine (HSP.out _ hbS).mono ?_;rintro e wX ⟨rfl,hb⟩;exact ⟨rfl,hb⟩)
         simp only [Act.put,List.setIfInBounds_toArray,List.set_cons_zero,List.set_cons_succ])
    first
      | (refine Way.no 11 (by rfl) (by kernel_rfl) (by rfl) ?_;simp only [Act.put,List.setIfInBounds_toArray,List.set_cons_zero,List.set_cons_succ])
      | (refine' Way.yes 11 (by rfl) (by kernel_rfl) (by rfl) (fun wS hS=>?_) ?_
         rotate_left
         · have hB:=(SD.out _).1 hS
           have hbS:=HP.out.2.2.1.below hB HP.out.2.2.1.lt
           have s0:=hbS.cell 0
           have s9:=hbS.cell 9
           simp at s0 s9
           have hs:=HSTR.out _ hB
           go_simp
           first
             | exact ⟨rfl,Below.refl _ _⟩
             | (with_reducible refine (HSP.out _ hbS).mono ?_;rintro e wX ⟨rfl,hb⟩;exact ⟨rfl,hb⟩)
         simp only [Act.put,List.setIfInBounds_toArray,List.set_cons_zero,List.set_cons_succ])
    first
      | (refine Way.no 12 (by rfl) (by kernel_rfl) (by rfl) ?_;simp only [Act.put,List.setIfInBounds_toArray,List.set_cons_zero,List.set_cons_succ])
      | (refine' Way.yes 12 (by rfl) (by kernel_rfl) (by rfl) (fun wS hS=>?_) ?_
         rotate_left
         · have hB:=(SD.out _).1 hS
           have hbS:=HP.out.2.2.1.below hB HP.out.2.2.1.lt
           have s0:=hbS.cell 0
           have s9:=hbS.cell 9
           simp at s0 s9
           have hs:=HSTR.out _ hB
           go_simp
           first
             | exact ⟨rfl,Below.refl _ _⟩
             | (with_reducible refine (HSP.out _ hbS).mono ?_;rintro e wX ⟨rfl,hb⟩;exact ⟨rfl,hb⟩)
         simp only [Act.put,List.setIfInBounds_toArray,List.set_cons_zero,List.set_cons_succ])
    first
      | (refine Way.no 13 (by rfl) (by kernel_rfl) (by rfl) ?_;simp only [Act.put,List.setIfInBounds_toArray,List.set_cons_zero,List.set_cons_succ])
      | (refine' Way.yes 13 (by rfl) (by kernel_rfl) (by rfl) (fun wS hS=>?_) ?_
         rotate_left
         · have hB:=(SD.out _).1 hS
           have hbS:=HP.out.2.2.1.below hB HP.out.2.2.1.lt
           have s0:=hbS.cell 0
           have s9:=hbS.cell 9
           simp at s0 s9
           have hs:=HSTR.out _ hB
           go_simp
           first
             | exact ⟨rfl,Below.refl _ _⟩
             | (with_reducible refine (HSP.out _ hbS).mono ?_;rintro e wX ⟨rfl,hb⟩;exact ⟨rfl,hb⟩)
         simp only [Act.put,List.setIfInBounds_toArray,List.set_cons_zero,List.set_cons_succ])
    first
      | (refine Way.no 14 (by rfl) (by kernel_rfl) (by rfl) ?_;simp only [Act.put,List.setIfInBounds_toArray,List.set_cons_zero,List.set_cons_succ])
      | (refine' Way.yes 14 (by rfl) (by kernel_rfl) (by rfl) (fun wS hS=>?_) ?_
         rotate_left
         · have hB:=(SD.out _).1 hS
           have hbS:=HP.out.2.2.1.below hB HP.out.2.2.1.lt
           have s0:=hbS.cell 0
           have s9:=hbS.cell 9
           simp at s0 s9
           have hs:=HSTR.out _ hB
           go_simp
           first
             | exact ⟨rfl,Below.refl _ _⟩
             | (with_reducible refine (HSP.out _ hbS).mono ?_;rintro e wX ⟨rfl,hb⟩;exact ⟨rfl,hb⟩)
         simp only [Act.put,List.setIfInBounds_toArray,List.set_cons_zero,List.set_cons_succ])
    first
      | (refine Way.no 15 (by rfl) (by kernel_rfl) (by rfl) ?_;simp only [Act.put,List.setIfInBounds_toArray,List.set_cons_zero,List.set_cons_succ])
      | (refine' Way.yes 15 (by rfl) (by kernel_rfl) (by rfl) (fun wS hS=>?_) ?_
         rotate_left
         · have hB:=(SD.out _).1 hS
           have hbS:=HP.out.2.2.1.below hB HP.out.2.2.1.lt
           have s0:=hbS.cell 0
           have s9:=hbS.cell 9
           simp at s0 s9
           have hs:=HSTR.out _ hB
           go_simp
           first
             | exact ⟨rfl,Below.refl _ _⟩
             | (with_reducible refine (HSP.out _ hbS).mono ?_;rintro e wX ⟨rfl,hb⟩;exact ⟨rfl,hb⟩)
         simp only [Act.put,List.setIfInBounds_toArray,List.set_cons_zero,List.set_cons_succ])
    refine Way.move 16 (by rfl) (by kernel_rfl) (by rfl) (fun wS hS=>?_)
    have hB:=(SD.out _).1 hS
    have hbS:=HP.out.2.2.1.below hB HP.out.2.2.1.lt
    have htS:=HP.out.2.2.2.1.keep (fun k hk=>hB.block k (town_lt HP.out.2.2.2.1.1 k hk))
    have HTL:=Lib.hid (fun ty u=>tell_anyG O b _ _ _ _ _ _ _ _ _ _ _ _ _ tk ty u (ts.map tokV) wS hbS HP.out.1 htS (by rw [List.length_map];have:=HP.out.2.1;simp at this;omega))
    go_simp
    refine (HTL.out _ _).mono ?_
    rintro e wT ⟨rfl,⟨tk',g1,g2⟩,g3⟩
    refine ⟨_,rfl,?_⟩
    obtain ⟨S2,SD2⟩:∃ S2:World → Prop,Go.RowKit.Hid (∀ x:World,S2 x ↔ (Blk x b 80 #[.int .i64 (P:Nat),er,dn,fOut,.bool false,.int .i64 (fr:Nat),raw,.int .i64 0,.pointer (some ⟨g,0,none⟩),.slice A n cap,dg,cd,.int .i32 0,tk'] ∧ TRowG (up O wS) x tk' (ts.map tokV ++ [tokV ⟨fr,P + 1 - fr,.str says⟩]) ∧ Fr O w x)):=⟨_,Lib.hid (fun _=>Iff.rfl)⟩
    have hst:Stays S2:=fun W W' h hb=>by
      obtain ⟨a1,a2,a3⟩:=(SD2.out _).1 h
      exact (SD2.out _).2 ⟨a1.below hb a1.lt,a2.keep (fun k hk=>hb.block k (town_lt a2.1 k hk)),a3.below hb⟩
    have hfr:Fr O w wT:=(Fr.of_below hB).trans (g3.mono (fun k _ hk=>by
      rcases hk with rfl | hk
      · exact HP.out.1
      · exact HP.out.2.2.2.1.2 k hk))
    have g2':TRowG (up O wS) wT tk' (ts.map tokV ++ [tokV ⟨fr,P + 1 - fr,.str says⟩]):=by rw [HP1.out];exact g2
    refine Moved.turn S2 hst (by kernel_rfl) ((SD2.out _).2 ⟨g1,g2',hfr⟩) ?_
    have HSZ:=Lib.hid hB.size
    clear hst g1 g2 g2' g3 hfr hbS htS hB hS HTL
    try simp only [Act.put,List.setIfInBounds_toArray,List.set_cons_zero,List.set_cons_succ]
    refine Way.done (by kernel_rfl) (fun wE hE=>?_)
    obtain ⟨a1,a2,a3⟩:=(SD2.out _).1 hE
    have HA:=Lib.hid (And.intro a1 (And.intro a2 a3))
    clear a1 a2 a3 hE
    go_wp2_with fail
    go_ret
    have h3:=HP.out.2.1
    exact toldG (W:=wS) HP.out.1 (by simpa using h3) hP HA.out.1 HA.out.2.1 HSZ.out HA.out.2.2
  rcases hc with rfl | hc
  · have hs:step flP P (.txt fr says []) 92 = .go (.esc fr says) []:=by simp [step]
    rw [hs] at hok ⊢
    have HOK:=Lib.hid (hok _ _ rfl).1
    rw [show (((92:UInt8).toNat:Nat):Int) = 92 from rfl]
    have k3:=h5.cell 3
    have f3:=h5.frozen 3
    simp at k3
    clear h1 h3 h5 h7 hr m1 m2 m3 f1 f2 f4 f5 f6 hok hs hn hP1 k0
    go_enter Tryz.func51,Tryz.ntmps51
    go_wp2_with fail
    refine HH.out.mono ?_
    rintro e w' ⟨rfl,rfl⟩
    go_wp2_with fail
    go_ret
    obtain ⟨h1,h3,h5,h7,hr,hf⟩:=HP.out
    have b1:=h5.set1 3 fEsc
    simp at b1
    refine ⟨rfl,⟨.inl h1,by omega,by simp at h3 ⊢;omega,HOK.out,_,_,_,_,_,_,_,_,_,_,_,b1,⟨rfl,rfl,rfl,rfl,(Row.set (by exact hr) h5 3 fEsc).mono up_of,(hf.set h5 3 fEsc).mono up_of (by omega),rfl⟩,?_⟩,(Fr.refl _ _).setCell (p:=⟨b,3,none⟩) h1 _⟩
    rw [List.append_nil]
    exact (h7.set h5 3 fEsc).mono up_of
  · have n34:c ≠ 34:=by rintro rfl;revert hc;decide
    have n92:c ≠ 92:=by rintro rfl;revert hc;decide
    have hs:step flP P (.txt fr says []) c = .bad 91 P []:=by simp [step,n34,n92,hc]
    rw [hs]
    have e1:((c.toNat:Int) == 34) = false:=by rw [beq_eq_false_iff_ne];omega
    have e2:((c.toNat:Int) == 92) = false:=by rw [beq_eq_false_iff_ne];omega
    have e3:decide ((c.toNat:Int) < 32) = true:=by rw [decide_eq_true_iff];omega
    clear h1 h3 h5 h7 hr m1 m2 m3 f1 f2 f3 f4 f5 f6 hok hs hn hP1 k0 hc n34 n92
    generalize (c.toNat:Int) = C at *
    go_enter Tryz.func51,Tryz.ntmps51
    go_wp2_with fail
    refine HH.out.mono ?_
    rintro e w' ⟨rfl,rfl⟩
    go_wp2_with fail
    go_ret
    obtain ⟨h1,h3,h5,h7,hr,hf⟩:=HP.out
    exact ⟨rfl,by decide,by decide,⟨.inl h1,by omega,by simp at h3 ⊢;omega,.inr rfl,_,_,_,_,_,_,_,_,_,_,_,h5,fun h=>(by omega),by rw [List.append_nil];exact h7.mono up_of⟩,Fr.refl _ _⟩
set_option maxRecDepth 100000 in
set_option maxHeartbeats 1000000 in
theorem within_feedG (O:Nat → Prop) (b P:Nat) (er dn:Value) (ts:List Tok) (c:UInt8) (fr:Nat) (says held:List UInt8) (w:World) (h:LxMG O w b P P er dn (.txt fr says held) ts) (hP:P < 16777216) (hc:held ≠ [] ∨ (c ≠ 34 ∧ c ≠ 92 ∧ ¬ c.toNat < 32)) :
    Calls Tryz.prog 51 #[.pointer (some ⟨b,0,none⟩),.int .u8 (c.toNat:Int)] w (StPG O w b P er dn ts (step flP P (.txt fr says held) c)):=by
  have hok:=fun m' t=>step_ok (fl:=flP) (c:=c) h.2.2.2.1 (m':=m') (t:=t)
  have hstep:step flP P (.txt fr says held) c = match tk held c with
      | some h=>.go (.txt fr (says ++ [c]) h) []
      | none=>.bad 90 P []:=by
    show (if _ then _ else if _ then _ else if _ then _ else _) = _
    rw [if_neg (by rcases hc with h | h;exact fun e=>h e.1;exact fun e=>h.1 e.2),if_neg (by rcases hc with h | h;exact fun e=>h e.1;exact fun e=>h.2.1 e.2),if_neg (by rcases hc with h | h;exact fun e=>h e.1;exact fun e=>h.2.2 e.2)]
    cases tk held c <;> rfl
  rw [hstep] at hok ⊢
  obtain ⟨h1,h2,h3,h4,sv,inn,frv,raw,nm,ch,sy,dg,cd,hg,tk0,h5,h6,h7⟩:=h
  obtain ⟨rfl,rfl,rfl,rfl,hr,hf,rfl⟩:=h6
  obtain ⟨m1,m2,m3⟩:=h4
  obtain ⟨g,f,rfl,f1,f2,f3,f4,f5,f6⟩:=hf
  have HH:=Lib.hid (held_of g f w f1)
  rw [f2] at HH
  have k8:=h5.cell 8
  simp at k8
  obtain ⟨A,cap,rfl,_⟩:=own_shape hr.1
  obtain ⟨n,hn⟩:∃ n,says.length = n:=⟨_,rfl⟩
  have hn4:n ≤ 100000000:=by omega
  rw [hn] at h5 hr
  have hgb:g ≠ b:=by
    obtain ⟨hs,a1,a2,a3,a4⟩:=f1
    exact a4.apart h5 (by decide)
  -- the feeder takes the byte
  have hrb:RB (w.alloc (.cells #[bv c] 5)) (w.heap.size + 1) (some ⟨w.heap.size,0,none⟩) 1 [c]:=by
    have hb:Blk (w.alloc (.cells #[bv c] 5)) w.heap.size 5 #[bv c]:=Blk.new w 5 #[bv c]
    refine ⟨rfl,fun _=>⟨_,_,rfl,by omega,fun j hj=>?_⟩⟩
    rw [Nat.zero_add,hb.cell j]
    obtain rfl:j = 0:=by simpa using hj
    rfl
  have hlt:=f1.lt
  have HFD:=Lib.hid (feed_any g f (some ⟨w.heap.size,0,none⟩) 1 1 (w.heap.size + 1) [c] _ (FB.keep f1 (Below.heap_alloc w (.cells #[bv c] 5) g hlt)) f5 hrb (fun g' o e _=>by injection e with e;injection e with e;omega) (by simp) (by decide) (by omega))
  have hfs:frun f [c] = fstep f c:=rfl
  rw [hfs] at HFD
  have hla:∀ k,k < w.heap.size → (w.alloc (.cells #[bv c] 5)).heap[k]? = w.heap[k]?:=fun k hk=>Below.heap_alloc w _ k hk
  have HLA:=Lib.hid hla
  have hsa:(w.alloc (.cells #[bv c] 5)).heap.size = w.heap.size + 1:=by simp
  have HSA:=Lib.hid hsa
  have HP:=Lib.hid (And.intro h1 (And.intro h3 (And.intro h5 (And.intro h7 (And.intro hr (And.intro f6 (And.intro hgb hlt)))))))
  have hgr:∀ k,(Value.slice A n cap).ownBlock = some k → k ≠ g:=by
    obtain ⟨hs,a1,a2,a3,a4⟩:=f1
    intro k hk e
    exact own_apart hr.1 a4 (by decide) (by rw [hk,e])
  have HGR:=Lib.hid hgr
  have hgt:∀ k,tk0.ownBlock = some k → k ≠ g:=by
    obtain ⟨hs,a1,a2,a3,a4⟩:=f1
    intro k hk e
    exact town_apart h7.1 a4 (by decide) (by rw [hk,e])
  have HGT:=Lib.hid hgt
  have HFF:=Lib.hid (And.intro f2 (And.intro f3 (And.intro f4 f5)))
  have HN:=Lib.hid hn
  have hpath:(((held.length:Nat):Int) == 0) = false ∨ ((((held.length:Nat):Int) == 0) = true ∧ ((c.toNat:Int) == 34) = false ∧ ((c.toNat:Int) == 92) = false ∧ decide ((c.toNat:Int) < 32) = false):=by
    by_cases hh:held = []
    · right
      rcases hc with hc | ⟨c1,c2,c3⟩
      · exact absurd hh hc
      · refine ⟨by rw [hh];rfl,?_,?_,by rw [decide_eq_false_iff_not];omega⟩
        · have:=bit_byte c 34
          rw [decide_eq_false c1] at this
          exact this
        · have:=bit_byte c 92
          rw [decide_eq_false c2] at this
          exact this
    · left
      have:=List.length_pos_iff.2 hh
      rw [beq_eq_false_iff_ne]
      omega
  have hbv:bv c = .int .u8 (c.toNat:Int):=rfl
  cases ht:tk held c with
  | none =>
    have hfc:fstep f c = ⟨f.place,[],true⟩:=fstep_fail f3 (by rw [f2];exact ht)
    have hfv:faultV (fstep f c) = spotE 30 (f.place:Nat):=by rw [hfc];rfl
    rw [hfv] at HFD
    clear h1 h3 h5 h7 hr m1 m2 m3 f1 f2 f3 f4 f5 f6 hok hstep hn hrb hfs hla hsa hgr hgt ht hfc hfv hc hlt hgb
    simp only []
    rcases hpath with e1 | ⟨e1,e2,e3,e4⟩ <;>
    ( go_enter Tryz.func51,Tryz.ntmps51
      go_wp2_with fail
      refine HH.out.mono ?_
      rintro e w' ⟨rfl,rfl⟩
      go_wp2_with fail
      refine HFD.out.mono ?_
      rintro e w1 ⟨rfl,hfb,hbut⟩
      have HBU:=Lib.hid hbut
      clear hfb hbut
      go_wp2_with fail
      go_ret
      obtain ⟨h1,h3,h5,h7,hr,f6,hgb,hlt⟩:=HP.out
      have hk:∀ k,k < w.heap.size → k ≠ g → w1.heap[k]? = w.heap[k]?:=fun k hk hkg=>(HBU.out.block k (by rw [HSA.out];omega) hkg).trans (HLA.out k hk)
      have hfr:Fr O w w1:=⟨HBU.out.os,HBU.out.tape,HBU.out.output,by have:=HBU.out.size;rw [HSA.out] at this;omega,fun k hk' hO=>hk k hk' (fun e=>hO (e ▸ f6))⟩
      exact ⟨rfl,by decide,by decide,⟨.inl h1,by omega,by simp at h3 ⊢;omega,.inr rfl,_,_,_,_,_,_,_,_,_,_,_,(hk b h5.lt (Ne.symm hgb)).trans h5,fun h=>(by omega),by rw [List.append_nil];exact (h7.keep (fun k hkk=>hk k (town_lt h7.1 k hkk) (HGT.out k hkk))).mono up_of⟩,hfr⟩ )
  | some hh =>
    rw [ht] at hok
    have HOK:=Lib.hid (hok _ _ rfl).1
    have hfc:fstep f c = ⟨f.place + 1,hh,false⟩:=fstep_good f3 (by rw [f2];exact ht)
    have hfv:faultV (fstep f c) = .nilIface:=by rw [hfc];rfl
    rw [hfv] at HFD
    have HFC:=Lib.hid (And.intro hfc (fstep_ok (c:=c) f5))
    clear h1 h3 h5 h7 hr m1 m2 m3 f1 f2 f3 f4 f5 f6 hok hstep hn hrb hfs hla hsa hgr hgt ht hfc hfv hc hlt hgb
    simp only []
    rcases hpath with e1 | ⟨e1,e2,e3,e4⟩ <;>
    ( go_enter Tryz.func51,Tryz.ntmps51
      go_wp2_with fail
      refine HH.out.mono ?_
      rintro e w' ⟨rfl,rfl⟩
      go_wp2_with fail
      refine HFD.out.mono ?_
      rintro e w1 ⟨rfl,hfb,hbut⟩
      obtain ⟨h1,h3,h5,h7,hr,f6,hgb,hlt⟩:=HP.out
      have hk:∀ k,k < w.heap.size → k ≠ g → w1.heap[k]? = w.heap[k]?:=fun k hk hkg=>(hbut.block k (by simp;omega) hkg).trans (HLA.out k hk)
      have hfr:Fr O w w1:=⟨hbut.os,hbut.tape,hbut.output,by have:=hbut.size;simp at this;omega,fun k hk' hO=>hk k hk' (fun e=>hO (e ▸ f6))⟩
      have b1:Blk w1 b 80 _:=(hk b h5.lt (Ne.symm hgb)).trans h5
      have r1:Row O w1 (.slice A n cap) says:=hr.keep (fun k hkk=>hk k (own_lt hr.1 k hkk) (HGR.out k hkk))
      have t1:TRowG O w1 tk0 (ts.map tokV):=h7.keep (fun k hkk=>hk k (town_lt h7.1 k hkk) (HGT.out k hkk))
      have k9:=b1.cell 9
      simp at k9
      have hown:=r1.1
      rw [HN.out] at hown
      have hcl:(w1.alloc (.cells #[bv c] 5)).cell? ⟨w1.heap.size,0,none⟩ = some (bv c):=by rw [(Blk.new w1 5 #[bv c]).cell];rfl
      have HCL:=Lib.hid hcl
      have HON:=Lib.hid (hown.alloc (.cells #[bv c] 5))
      have HB1:=Lib.hid b1
      have HR1:=Lib.hid r1
      have HT1:=Lib.hid t1
      have HF1:=Lib.hid hfr
      have HFB:=Lib.hid hfb
      clear h1 h3 h5 h7 hr f6 hgb hlt hk hfr b1 r1 t1 hown hcl hfb hbut
      go_wp2_with (at_builtin;refine wpList_push rfl (.tmp 55) (.tmp 57) rfl 0 (.slice A n cap) n says rfl HON.out _ _ rfl c HCL.out (by omega) (Nat.zero_le _) ?_;intro g2 cap2 w2 hown1 hg1 hat1 hlt1;obtain ⟨hbw,hpk⟩:=push_pack (below_new w1 _) HB1.out HR1.out HN.out (l2:=[c]) rfl hown1 hg1 hat1;have f9:=hbw.frozen 9;have k9':=hbw.cell 9;have HPK:=Lib.hid (hpk 9 (.slice (some ⟨g2,0,none⟩) (n + 1) cap2));simp at k9';clear hpk hbw hown1 hg1 hat1)
      go_ret
      obtain ⟨p1,p2,p3⟩:=HPK.out
      obtain ⟨h1,h3,h5,h7,hr,f6,hgb,hlt⟩:=HP.out
      simp at p1
      have hfb:=HFB.out
      rw [HFC.out.1] at hfb
      have hd1:Fdr O w1 (P + 1) (.pointer (some ⟨g,0,none⟩)) hh:=⟨g,_,rfl,hfb,rfl,rfl,by have:=HFF.out.2.2.1;simp;omega,by have:=HFC.out.2;rw [HFC.out.1] at this;exact this,f6⟩
      refine ⟨rfl,⟨.inl h1,by omega,by simp at h3 ⊢;omega,HOK.out,_,_,_,_,_,_,_,_,_,_,_,p1,⟨rfl,rfl,rfl,rfl,p2.mono (up_up2 HF1.out.size),(fdr_fr p3 HB1.out HR1.out.1 hd1).mono up_of (Nat.le_refl _),rfl⟩,?_⟩,HF1.out.trans (p3.mono (fun k _ hk=>by
        rcases hk with rfl | hk
        · exact h1
        · exact hr.2 k hk))⟩
      rw [List.append_nil]
      exact (trow_frG p3 HB1.out HR1.out.1 HT1.out).mono up_of )
theorem within_anyG (O:Nat → Prop) (b P:Nat) (er dn:Value) (ts:List Tok) (c:UInt8) (fr:Nat) (says held:List UInt8) (w:World) (h:LxMG O w b P P er dn (.txt fr says held) ts) (hP:P < 16777216) :
    Calls Tryz.prog 51 #[.pointer (some ⟨b,0,none⟩),.int .u8 (c.toNat:Int)] w (StPG O w b P er dn ts (step flP P (.txt fr says held) c)):=by
  by_cases hh:held = []
  · subst hh
    by_cases hc:c = 34 ∨ c = 92 ∨ c.toNat < 32
    · exact within_headG O b P er dn ts c fr says w h hP hc
    · exact within_feedG O b P er dn ts c fr says [] w h hP (.inr ⟨fun e=>hc (.inl e),fun e=>hc (.inr (.inl e)),fun e=>hc (.inr (.inr e))⟩)
  · exact within_feedG O b P er dn ts c fr says held w h hP (.inl hh)
end Go.Proofs.YtgmholdkdppbmaaGreatDoor.Lx

namespace Go.Proofs.YtgmholdkdppbmaaGreatDoor.Lx
open Go.RowKit
def stepM (p:Nat) (m:Md) (c:UInt8):Rs:=if p = 16777216 then .bad 3 p [] else step flP p m c
def runM (p:Nat) (m:Md):List UInt8 → Rn
  | []=>⟨[],.inl m⟩
  | c :: l=>match stepM p m c with
    | .go m' t=>(runM (p + 1) m' l).pre t
    | .bad no q t=>⟨t,.inr (no,q,p)⟩
theorem runM_go {p:Nat} {m m':Md} {c:UInt8} {t:List Tok} (l:List UInt8) (h:stepM p m c = .go m' t):runM p m (c :: l) = (runM (p + 1) m' l).pre t:=by
  rw [runM,h]
theorem runM_bad {p:Nat} {m:Md} {c:UInt8} {no q:Nat} {t:List Tok} (l:List UInt8) (h:stepM p m c = .bad no q t):runM p m (c :: l) = ⟨t,.inr (no,q,p)⟩:=by
  rw [runM,h]
theorem runM_append:∀ (a b:List UInt8) (p:Nat) (m:Md),
    runM p m (a ++ b) = match (runM p m a).fin with
      | .inl m'=>(runM (p + a.length) m' b).pre (runM p m a).toks
      | .inr _=>runM p m a
  | [],b,p,m=>by simp [runM,Rn.pre]
  | c :: a,b,p,m=>by
    cases hs:stepM p m c with
    | bad no q t=>rw [List.cons_append,runM_bad _ hs,runM_bad _ hs]
    | go m' t =>
      rw [List.cons_append,runM_go _ hs,runM_go _ hs,runM_append a b (p + 1) m']
      simp only [List.length_cons]
      rw [show p + 1 + a.length = p + (a.length + 1) by omega]
      rcases runM (p + 1) m' a with ⟨l1,f⟩
      cases f with
      | inl m2=>simp [Rn.pre]
      | inr x=>rfl
theorem runM_snoc (a:List UInt8) (c:UInt8) (p:Nat) (m m1:Md) (l:List Tok) (h:runM p m a = ⟨l,.inl m1⟩):runM p m (a ++ [c]) = match stepM (p + a.length) m1 c with
    | .go m' t=>⟨l ++ t,.inl m'⟩
    | .bad no q t=>⟨l ++ t,.inr (no,q,p + a.length)⟩:=by
  rw [runM_append,h]
  simp only [runM]
  cases stepM (p + a.length) m1 c <;> simp [Rn.pre]
end Go.Proofs.YtgmholdkdppbmaaGreatDoor.Lx

namespace Go.Proofs.YtgmholdkdppbmaaGreatDoor.Lx
open Go.RowKit
theorem step_anyG (O:Nat → Prop) (b P:Nat) (er dn:Value) (ts:List Tok) (m:Md) (c:UInt8) (w:World) (h:LxMG O w b P P er dn m ts) (hP:P < 16777216) :
    ∃ fid,w.cell? ⟨b,3,none⟩ = some (.func (.func fid) #[] #[]) ∧ (callFunc fid #[.pointer (some ⟨b,0,none⟩),.int .u8 (c.toNat:Int)]).run Tryz.prog w = .ok (.enter fid #[.pointer (some ⟨b,0,none⟩),.int .u8 (c.toNat:Int)]) w ∧ Calls Tryz.prog fid #[.pointer (some ⟨b,0,none⟩),.int .u8 (c.toNat:Int)] w (StPG O w b P er dn ts (step flP P m c)):=by
  have h':=h
  obtain ⟨h1,h2,h3,h4,sv,inn,frv,raw,nm,ch,sy,dg,cd,hg,tk0,h5,h6,h7⟩:=h'
  have k3:=h5.cell 3
  simp at k3
  cases m with
  | out=>exact ⟨_,by rw [k3,h6.1],by kernel_rfl,outside_anyG O b P er dn ts c w h hP⟩
  | num fr st raw=>exact ⟨_,by rw [k3,h6.1],by kernel_rfl,numeral_anyG O b P er dn ts c fr st raw w h hP⟩
  | word fr raw=>exact ⟨_,by rw [k3,h6.1],by kernel_rfl,letter_anyG O b P er dn ts c fr raw w h hP⟩
  | txt fr says held=>exact ⟨_,by rw [k3,h6.1],by kernel_rfl,within_anyG O b P er dn ts c fr says held w h hP⟩
  | esc fr says=>exact ⟨_,by rw [k3,h6.1],by kernel_rfl,escape_anyG O b P er dn ts c fr says w h hP⟩
  | dig fr says n code high=>exact ⟨_,by rw [k3,h6.1],by kernel_rfl,digit_anyG O b P er dn ts c fr says n code high w h hP⟩
  | sla fr says high=>exact ⟨_,by rw [k3,h6.1],by kernel_rfl,slash_anyG O b P er dn ts c fr says high w h hP⟩
  | leu fr says high=>exact ⟨_,by rw [k3,h6.1],by kernel_rfl,letterU_anyG O b P er dn ts c fr says high w h hP⟩
def TkPG (O:Nat → Prop) (w:World) (b P:Nat) (er dn:Value) (ts:List Tok) (r:Rs) (e:Ending) (w':World):Prop:=match r with
  | .go m' t=>e = .returned .nilIface ∧ LxMG (up O w) w' b (P + 1) (P + 1) er dn m' (ts ++ t) ∧ Fr O w w'
  | .bad no q t=>e = .returned (spotE (no:Nat) (q:Nat)) ∧ LxXG (up O w) w' b P er dn no q (ts ++ t) ∧ Fr O w w'
set_option maxRecDepth 100000 in
set_option maxHeartbeats 1000000 in
theorem take_anyG (O:Nat → Prop) (b P:Nat) (er dn:Value) (ts:List Tok) (m:Md) (c:UInt8) (w:World) (h:LxMG O w b P P er dn m ts) (hP:P ≤ 16777216) :
    Calls Tryz.prog 32 #[.pointer (some ⟨b,0,none⟩),.int .u8 (c.toNat:Int)] w (TkPG O w b P er dn ts (stepM P m c)):=by
  have k0:w.cell? ⟨b,0,none⟩ = some (.int .i64 (P:Nat)):=by
    obtain ⟨h1,h2,h3,h4,sv,inn,frv,raw,nm,ch,sy,dg,cd,hg,tk0,h5,h6,h7⟩:=h
    have k0:=h5.cell 0
    simp at k0
    exact k0
  unfold stepM
  by_cases hM:P = 16777216
  · rw [if_pos hM]
    have e0:((P:Int) == 16777216) = true:=by rw [beq_iff_eq];omega
    have HL:=Lib.hid h
    have HM:=Lib.hid hM
    clear h hM
    go_enter Tryz.func32,Tryz.ntmps32
    go_wp2
    go_ret
    obtain ⟨h1,h2,h3,h4,sv,inn,frv,raw,nm,ch,sy,dg,cd,hg,tk0,h5,h6,h7⟩:=HL.out
    exact ⟨rfl,⟨.inl h1,by omega,by simp;omega,.inr rfl,_,_,_,_,_,_,_,_,_,_,_,h5,fun h=>(by omega),by rw [List.append_nil];exact h7.mono up_of⟩,Fr.refl _ _⟩
  · rw [if_neg hM]
    have e0:((P:Int) == 16777216) = false:=by rw [beq_eq_false_iff_ne];omega
    obtain ⟨fid,k3,hcf,hcall⟩:=step_anyG O b P er dn ts m c w h (by omega)
    have HC:=Lib.hid hcall
    have HL:=Lib.hid h.1
    clear h hcall
    cases hs:step flP P m c with
    | go m' t =>
      rw [hs] at HC
      clear hs
      go_enter Tryz.func32,Tryz.ntmps32
      go_wp2_with fail
      refine HC.out.mono ?_
      rintro e w1 ⟨rfl,hlx,hfr⟩
      have HX:=Lib.hid hlx
      have HF:=Lib.hid hfr
      obtain ⟨h1,h2,h3,h4,sv,inn,frv,raw,nm,ch,sy,dg,cd,hg,tk0,h5,h6,h7⟩:=hlx
      have k0:=h5.cell 0
      have f0:=h5.frozen 0
      simp at k0
      have HB:=Lib.hid h5
      have HT:=Lib.hid h7
      have HM:=Lib.hid (And.intro h1 (And.intro h2 (And.intro h3 (And.intro h4 h6))))
      clear hfr h1 h2 h3 h4 h5 h6 h7
      go_wp2_with fail
      go_ret
      obtain ⟨h1,h2,h3,h4,h6⟩:=HM.out
      have b1:=HB.out.set1 0 (.int .i64 ((P:Int) + 1))
      simp at b1
      have e1:(P:Int) + 1 = ((P + 1:Nat):Int):=by omega
      rw [e1] at b1 ⊢
      refine ⟨rfl,⟨h1,h2,h3,h4,_,_,_,_,_,_,_,_,_,_,_,b1,h6.keep (fun k t cs s hk ht hO=>Below.heap_setCell _ _ _ k (fun e=>?_)),HT.out.set HB.out 0 _⟩,HF.out.setCell (p:=⟨b,0,none⟩) HL.out _⟩
      have hb:=HB.out
      unfold Blk at hb
      rw [e] at hk
      change w1.heap[b]? = _ at hk
      rw [hb] at hk
      injection hk with hk
      injection hk with _ hk
      rcases ht with ht | ht <;> (rw [ht] at hk;revert hk;decide)
    | bad no q t =>
      rw [hs] at HC
      clear hs
      have hex:∃ w1,True:=⟨w,trivial⟩
      by_cases hno:no = 41
      · subst hno
        go_enter Tryz.func32,Tryz.ntmps32
        go_wp2_with fail
        refine HC.out.mono ?_
        rintro e w1 ⟨rfl,hn0,hn1,hlx,hfr⟩
        have HX:=Lib.hid hlx
        have HF:=Lib.hid hfr
        obtain ⟨h1,h2,h3,h4,sv,inn,frv,raw,nm,ch,sy,dg,cd,hg,tk0,h5,h6,h7⟩:=hlx
        obtain rfl:=h6 rfl
        have k5:=h5.cell 5
        simp at k5
        clear hfr h1 h2 h3 h4 h5 h6 h7
        go_wp2_with fail
        go_ret
        exact ⟨rfl,HX.out,HF.out⟩
      · have e1:((no:Int) == 41) = false:=by rw [beq_eq_false_iff_ne];omega
        go_enter Tryz.func32,Tryz.ntmps32
        go_wp2_with fail
        refine HC.out.mono ?_
        rintro e w1 ⟨rfl,hn0,hn1,hlx,hfr⟩
        have e2:((no:Int) == 0) = false:=by rw [beq_eq_false_iff_ne];omega
        have HX:=Lib.hid hlx
        have HF:=Lib.hid hfr
        obtain ⟨h1,h2,h3,h4,sv,inn,frv,raw,nm,ch,sy,dg,cd,hg,tk0,h5,h6,h7⟩:=hlx
        obtain rfl:q = P:=by rcases h4 with h | h;exact absurd h hno;exact h
        have k0:=h5.cell 0
        simp at k0
        clear hfr h1 h2 h3 h4 h5 h6 h7 hn0 hno
        go_wp2_with fail
        go_ret
        exact ⟨rfl,HX.out,HF.out⟩
end Go.Proofs.YtgmholdkdppbmaaGreatDoor.Lx

namespace Go.Proofs.YtgmholdkdppbmaaGreatDoor.Lx
open Go.RowKit
def LxE (O:Nat → Prop) (w:World) (b P:Nat) (er dn:Value) (ts:List Tok):Prop :=
  O b ∧ P ≤ 16777216 ∧ ∃ st inn fr raw nm ch sy dg cd hg tk,
    Blk w b 80 #[.int .i64 (P:Nat),er,dn,st,inn,fr,raw,nm,ch,sy,dg,cd,hg,tk] ∧ TRow O w tk (ts.map tokV)
theorem LxE.mono {O O':Nat → Prop} {w:World} {b P:Nat} {er dn:Value} {ts:List Tok} (h:LxE O w b P er dn ts) (hO:∀ k,O k → O' k):LxE O' w b P er dn ts:=by
  obtain ⟨h1,h2,st,inn,fr,raw,nm,ch,sy,dg,cd,hg,tk,h5,h7⟩:=h
  exact ⟨hO b h1,h2,st,inn,fr,raw,nm,ch,sy,dg,cd,hg,tk,h5,h7.mono hO⟩
theorem LxX.err {O:Nat → Prop} {w:World} {b P:Nat} {er dn:Value} {no q:Nat} {ts:List Tok} (h:LxX O w b P er dn no q ts) (u:Value):LxE O (w.setCell ⟨b,1,none⟩ u) b P u dn ts:=by
  obtain ⟨h1,h2,h3,h4,st,inn,fr,raw,nm,ch,sy,dg,cd,hg,tk,h5,h6,h7⟩:=h
  have b1:=h5.set1 1 u
  simp at b1
  exact ⟨h1,h2,_,_,_,_,_,_,_,_,_,_,_,b1,h7.set h5 1 u⟩
theorem LxM.set1 {O:Nat → Prop} {w:World} {b P Q:Nat} {er dn:Value} {m:Md} {ts:List Tok} (h:LxM O w b P Q er dn m ts) (u:Value):LxM O (w.setCell ⟨b,1,none⟩ u) b P Q u dn m ts:=by
  obtain ⟨h1,h2,h3,h4,st,inn,fr,raw,nm,ch,sy,dg,cd,hg,tk,h5,h6,h7⟩:=h
  have b1:=h5.set1 1 u
  simp at b1
  refine ⟨h1,h2,h3,h4,_,_,_,_,_,_,_,_,_,_,_,b1,h6.keep (fun k t cs s hk ht hO=>Below.heap_setCell _ _ _ k (fun e=>?_)),h7.set h5 1 u⟩
  unfold Blk at h5
  change k = b at e
  rw [e,h5] at hk
  injection hk with hk
  injection hk with _ hk
  rcases ht with ht | ht <;> (rw [ht] at hk;revert hk;decide)
end Go.Proofs.YtgmholdkdppbmaaGreatDoor.Lx

namespace Go.Proofs.YtgmholdkdppbmaaGreatDoor.Lx
open Go.RowKit
def LxEG (O:Nat → Prop) (w:World) (b P:Nat) (er dn:Value) (ts:List Tok):Prop :=
  O b ∧ P ≤ 16777216 ∧ ∃ st inn fr raw nm ch sy dg cd hg tk,
    Blk w b 80 #[.int .i64 (P:Nat),er,dn,st,inn,fr,raw,nm,ch,sy,dg,cd,hg,tk] ∧ TRowG O w tk (ts.map tokV)
theorem LxEG.mono {O O':Nat → Prop} {w:World} {b P:Nat} {er dn:Value} {ts:List Tok} (h:LxEG O w b P er dn ts) (hO:∀ k,O k → O' k):LxEG O' w b P er dn ts:=by
  obtain ⟨h1,h2,st,inn,fr,raw,nm,ch,sy,dg,cd,hg,tk,h5,h7⟩:=h
  exact ⟨hO b h1,h2,st,inn,fr,raw,nm,ch,sy,dg,cd,hg,tk,h5,h7.mono hO⟩
theorem LxXG.err {O:Nat → Prop} {w:World} {b P:Nat} {er dn:Value} {no q:Nat} {ts:List Tok} (h:LxXG O w b P er dn no q ts) (u:Value):LxEG O (w.setCell ⟨b,1,none⟩ u) b P u dn ts:=by
  obtain ⟨h1,h2,h3,h4,st,inn,fr,raw,nm,ch,sy,dg,cd,hg,tk,h5,h6,h7⟩:=h
  have b1:=h5.set1 1 u
  simp at b1
  exact ⟨h1,h2,_,_,_,_,_,_,_,_,_,_,_,b1,h7.set h5 1 u⟩
theorem LxMG.set1 {O:Nat → Prop} {w:World} {b P Q:Nat} {er dn:Value} {m:Md} {ts:List Tok} (h:LxMG O w b P Q er dn m ts) (u:Value):LxMG O (w.setCell ⟨b,1,none⟩ u) b P Q u dn m ts:=by
  obtain ⟨h1,h2,h3,h4,st,inn,fr,raw,nm,ch,sy,dg,cd,hg,tk,h5,h6,h7⟩:=h
  have b1:=h5.set1 1 u
  simp at b1
  refine ⟨h1,h2,h3,h4,_,_,_,_,_,_,_,_,_,_,_,b1,h6.keep (fun k t cs s hk ht hO=>Below.heap_setCell _ _ _ k (fun e=>?_)),h7.set h5 1 u⟩
  unfold Blk at h5
  change k = b at e
  rw [e,h5] at hk
  injection hk with hk
  injection hk with _ hk
  rcases ht with ht | ht <;> (rw [ht] at hk;revert hk;decide)
def FdPG (O:Nat → Prop) (w:World) (b Q:Nat) (ts:List Tok) (r:Rn) (e:Ending) (w':World):Prop:=match r.fin with
  | .inl m'=>e = .returned .nilIface ∧ LxMG (up O w) w' b Q Q .nilIface (.bool false) m' (ts ++ r.toks) ∧ Q ≤ 16777216 ∧ Fr O w w'
  | .inr x=>e = .returned (spotE (x.1:Nat) (x.2.1:Nat)) ∧ LxEG (up O w) w' b x.2.2 (spotE (x.1:Nat) (x.2.1:Nat)) (.bool false) (ts ++ r.toks) ∧ Fr O w w'
def FdIG (O:Nat → Prop) (w:World) (b P:Nat) (ts:List Tok) (m:Md) (bs:List UInt8) (q:Nat) (wr:World):Prop :=
  (∃ m' l,runM P m (bs.take q) = ⟨l,.inl m'⟩ ∧ LxMG (up O w) wr b (P + q) (P + q) .nilIface (.bool false) m' (ts ++ l) ∧ P + q ≤ 16777216) ∨
  (∃ no p f l,runM P m bs = ⟨l,.inr (no,p,f)⟩ ∧ LxEG (up O w) wr b f (spotE (no:Nat) (p:Nat)) (.bool false) (ts ++ l))
set_option maxRecDepth 100000 in
set_option maxHeartbeats 1000000 in
theorem lfeed_anyG (O:Nat → Prop) (b P:Nat) (ts:List Tok) (m:Md) (A:Option Addr) (n c B:Nat) (bs:List UInt8) (w:World) (h:LxMG O w b P P .nilIface (.bool false) m ts) (hP:P ≤ 16777216)
    (hr:RB w B A n bs) (hB:B ≤ w.heap.size) (hne:∀ g o,A = some ⟨g,o,none⟩ → 0 < n → ¬ O g) (hn:n ≤ 1000000000000) :
    Calls Tryz.prog 17 #[.pointer (some ⟨b,0,none⟩),.slice A n c] w (FdPG O w b (P + n) ts (runM P m bs)):=by
  have hl:=hr.1
  have HL:=Lib.hid h
  have HR:=Lib.hid hr
  have HNE:=Lib.hid hne
  have k1:w.cell? ⟨b,1,none⟩ = some .nilIface:=by
    obtain ⟨h1,h2,h3,h4,sv,inn,frv,raw,nm,ch,sy,dg,cd,hg,tk0,h5,h6,h7⟩:=h
    have k1:=h5.cell 1
    simp at k1
    exact k1
  have k2:w.cell? ⟨b,2,none⟩ = some (.bool false):=by
    obtain ⟨h1,h2,h3,h4,sv,inn,frv,raw,nm,ch,sy,dg,cd,hg,tk0,h5,h6,h7⟩:=h
    have k2:=h5.cell 2
    simp at k2
    exact k2
  have HLN:=Lib.hid hl
  clear h hr hne hl
  go_enter Tryz.func17,Tryz.ntmps17
  go_wp2_with fail
  clear k1 k2
  go_loopw [5] (fun i wr=>∃ q:Nat,q ≤ n ∧ i = .int .i64 q ∧ FdIG O w b P ts m bs q wr ∧ Fr O w wr) (fun i _=>n - (intOf i).toNat)
  case atStart =>
    exact ⟨0,by omega,rfl,.inl ⟨m,[],rfl,by simpa using HL.out.mono up_of,by omega⟩,Fr.refl _ _⟩
  case round =>
    obtain ⟨q,hq,rfl,hst,hfr⟩:=hrel
    have HF:=Lib.hid hfr
    rcases hst with ⟨m',l,hrun,hlx,hPq⟩ | ⟨no,p,f,l,hrun,hlx⟩
    · have hlx0:=hlx
      obtain ⟨g1,g2,g3,g4,sv,inn,frv,raw,nm,ch,sy,dg,cd,hg,tk0,h5,h6,h7⟩:=hlx0
      have k1:=h5.cell 1
      simp at k1
      have HLX:=Lib.hid hlx
      have HRUN:=Lib.hid hrun
      clear g1 g2 g3 g4 h5 h6 h7 hlx hrun
      by_cases hlt:q < n
      · obtain ⟨g,o,hA,hgB,hcell⟩:=HR.out.2 (by omega)
        have hql:q < bs.length:=by rw [HLN.out];exact hlt
        have hx:=hcell q hql
        have hno:¬ O g:=HNE.out g o hA (by omega)
        have hxr:wr.cell? ⟨g,o + q,none⟩ = some (bv bs[q]):=by
          rw [World.cell?_of_block (w:=w) (w':=wr) (a:=⟨g,o + q,none⟩) (hfr.block g (by omega) hno)]
          exact hx
        subst hA
        have htk:bs.take (q + 1) = bs.take q ++ [bs[q]]:=List.take_succ_eq_append_getElem hql
        have hsn:=runM_snoc (bs.take q) bs[q] P m m' l HRUN.out
        have hlq:(bs.take q).length = q:=by simp;omega
        rw [hlq,← htk] at hsn
        have HT:=Lib.hid (take_anyG (up O w) b (P + q) .nilIface (.bool false) (ts ++ l) m' bs[q] wr HLX.out hPq)
        have HSN:=Lib.hid hsn
        have hall:runM P m bs = match (runM P m (bs.take (q + 1))).fin with
            | .inl m'=>(runM (P + (bs.take (q + 1)).length) m' (bs.drop (q + 1))).pre (runM P m (bs.take (q + 1))).toks
            | .inr _=>runM P m (bs.take (q + 1)):=by
          have:=runM_append (bs.take (q + 1)) (bs.drop (q + 1)) P m
          rwa [List.take_append_drop] at this
        have HALL:=Lib.hid hall
        have hno16:∀ m2 t,stepM (P + q) m' bs[q] = .go m2 t → P + q ≠ 16777216:=fun m2 t h e=>by
          unfold stepM at h
          rw [if_pos e] at h
          cases h
        have HNO:=Lib.hid hno16
        clear hx hcell hsn htk hall hfr hno hno16
        generalize bs[q] = x at *
        cases hs:stepM (P + q) m' x with
        | go m2 t =>
          rw [hs] at HT
          have hsn:=HSN.out
          rw [hs] at hsn
          have HS2:=Lib.hid hsn
          have hnn:=HNO.out _ _ hs
          clear hs hsn HSN
          go_wp2_with fail
          refine HT.out.mono ?_
          rintro e w1 ⟨rfl,hlx1,hfr1⟩
          have HX1:=Lib.hid hlx1
          have HF1:=Lib.hid hfr1
          obtain ⟨g1,g2,g3,g4,sv,inn,frv,raw,nm,ch,sy,dg,cd,hg,tk0,h5,h6,h7⟩:=hlx1
          have k1:=h5.cell 1
          have f1:=h5.frozen 1
          simp at k1
          clear g1 g2 g3 g4 h5 h6 h7 hfr1
          go_wp2_with fail
          go_roundw
          case rel =>
            refine ⟨q + 1,by omega,by go_num,.inl ⟨m2,l ++ t,HS2.out,?_,by omega⟩,?_⟩
            · have:=(HX1.out.set1 .nilIface).mono (up_up HF.out.size)
              rw [List.append_assoc] at this
              exact this
            · exact (HF1.out.up_old HF.out).setCell (p:=⟨b,1,none⟩) HL.out.1 _
          case measure=>simp [intOf];omega
        | bad no p t =>
          rw [hs] at HT
          have hsn:=HSN.out
          rw [hs] at hsn
          have hal:=HALL.out
          rw [hsn] at hal
          have HS2:=Lib.hid hal
          clear hs hsn HSN hal
          go_wp2_with fail
          refine HT.out.mono ?_
          rintro e w1 ⟨rfl,hlx1,hfr1⟩
          have HX1:=Lib.hid hlx1
          have HF1:=Lib.hid hfr1
          obtain ⟨g1,g2,g3,g4,sv,inn,frv,raw,nm,ch,sy,dg,cd,hg,tk0,h5,h6,h7⟩:=hlx1
          have k1:=h5.cell 1
          have f1:=h5.frozen 1
          simp at k1
          clear g1 g2 g3 g4 h5 h6 h7 hfr1
          go_wp2_with fail
          go_roundw
          case rel =>
            refine ⟨q + 1,by omega,by go_num,.inr ⟨no,p,P + q,l ++ t,HS2.out,?_⟩,?_⟩
            · have:=(HX1.out.err (spotE (no:Nat) (p:Nat))).mono (up_up HF.out.size)
              rw [List.append_assoc] at this
              exact this
            · exact (HF1.out.up_old HF.out).setCell (p:=⟨b,1,none⟩) HL.out.1 _
          case measure=>simp [intOf];omega
      · obtain rfl:q = n:=by omega
        have hall:bs.take q = bs:=List.take_of_length_le (by rw [HLN.out];exact Nat.le_refl _)
        have hr':=HRUN.out
        rw [hall] at hr'
        clear hlt hfr hall
        have HRR:=Lib.hid hr'
        clear hr'
        go_wp2_with fail
        go_ret
        unfold FdPG
        rw [HRR.out]
        exact ⟨rfl,HLX.out,hPq,HF.out⟩
    · have hlx0:=hlx
      obtain ⟨g1,g2,sv,inn,frv,raw,nm,ch,sy,dg,cd,hg,tk0,h5,h7⟩:=hlx0
      have k1:=h5.cell 1
      simp at k1
      have HLX:=Lib.hid hlx
      have HRR:=Lib.hid hrun
      clear g1 g2 h5 h7 hlx hrun hfr
      by_cases hlt:q < n
      · go_wp2_with fail
        go_ret
        unfold FdPG
        rw [HRR.out]
        exact ⟨rfl,HLX.out,HF.out⟩
      · obtain rfl:q = n:=by omega
        clear hlt
        go_wp2_with fail
        go_ret
        unfold FdPG
        rw [HRR.out]
        exact ⟨rfl,HLX.out,HF.out⟩
end Go.Proofs.YtgmholdkdppbmaaGreatDoor.Lx

namespace Go.Proofs.YtgmholdkdppbmaaGreatDoor.Lx
open Go.RowKit
def endV (x:Nat × Nat):Value:=if x.1 = 0 then .nilIface else spotE (x.1:Nat) (x.2:Nat)
end Go.Proofs.YtgmholdkdppbmaaGreatDoor.Lx
