/-
  Texts of the proof of 'LexG': LgV, LgW, LgX, LexZB, LexZC, LexZD, LexZF, LexZL, LexZG, Pieces, LexSO, LexSP.
-/
import Derived.Test.YtgmholdkdppbmaaGreatDoorLexGAA
import Derived.Test.YtgmholdkdppbmaaGreatDoorLexGAD
import Derived.Test.YtgmholdkdppbmaaGreatDoorLexGAH
import Derived.Test.YtgmholdkdppbmaaGreatDoorLexGAJ
import Derived.Test.YtgmholdkdppbmaaGreatDoorLexGAK
import Derived.Test.YtgmholdkdppbmaaGreatDoorRows
import Derived.Deep.QuietTactic
import Derived.BigQuiet
import Derived.Stop.Asserts
import Derived.LaidEql
import Derived.RowKitTokens
import Derived.Deep.Matrix
import Derived.SizedLaws
import Derived.Deep.SlicePairs
set_option linter.unusedVariables false
set_option linter.unusedSimpArgs false
namespace Go.Proofs.YtgmholdkdppbmaaGreatDoor.Lx
open Go.RowKit
theorem runM_no {s:List UInt8} {l:List Tok} {x:Nat × Nat × Nat} (h:runM 0 .out s = ⟨l,.inr x⟩):x.1 ≠ 0:=by
  have hro:=(refO_run s).2
  rw [h] at hro
  have hxo:refO s true = ⟨l,x.1,x.2.1,x.2.2,0⟩:=hro
  by_cases hlm:s.length ≤ 16777216
  · rw [runM_run s 0 .out (by omega)] at h
    exact fin_no (s:=s) (i:=0) (Nat.zero_le _) (by rw [List.drop_zero];exact h)
  · intro e
    have hh:(refO s true).no = 0:=by rw [hxo];exact e
    unfold refO at hh
    rw [if_neg hlm] at hh
    split at hh
    · cases hh
    · rename_i h2;exact h2 hh
theorem LxEG.below {O:Nat → Prop} {w w':World} {b P:Nat} {er dn:Value} {ts:List Tok} (h:LxEG O w b P er dn ts) (hb:Below w.heap.size w w'):LxEG O w' b P er dn ts:=by
  obtain ⟨h1,h2,st,inn,fr,raw,nm,ch,sy,dg,cd,hg,tk,h5,h7⟩:=h
  exact ⟨h1,h2,st,inn,fr,raw,nm,ch,sy,dg,cd,hg,tk,h5.below hb h5.lt,h7.keep (fun k hk=>hb.block k (town_lt h7.1 k hk))⟩
theorem LxEG.apart {O O2:Nat → Prop} {w w':World} {b P:Nat} {er dn:Value} {ts:List Tok} (h:LxEG O w b P er dn ts) (hf:Fr O2 w w') (hO:∀ k,k < w.heap.size → O k → ¬ O2 k):LxEG O w' b P er dn ts:=by
  obtain ⟨h1,h2,st,inn,fr,raw,nm,ch,sy,dg,cd,hg,tk,h5,h7⟩:=h
  exact ⟨h1,h2,st,inn,fr,raw,nm,ch,sy,dg,cd,hg,tk,(hf.block b h5.lt (hO b h5.lt h1)).trans h5,h7.keep (fun k hk=>hf.block k (town_lt h7.1 k hk) (hO k (town_lt h7.1 k hk) (h7.2 k hk)))⟩
theorem LxEG.cut {O:Nat → Prop} {w:World} {b P:Nat} {er dn:Value} {ts:List Tok} (h:LxEG O w b P er dn ts):LxEG (fun k=>O k ∧ k < w.heap.size) w b P er dn ts:=by
  obtain ⟨h1,h2,st,inn,fr,raw,nm,ch,sy,dg,cd,hg,tk,h5,h7⟩:=h
  exact ⟨⟨h1,h5.lt⟩,h2,st,inn,fr,raw,nm,ch,sy,dg,cd,hg,tk,h5,⟨h7.1,fun k hk=>⟨h7.2 k hk,town_lt h7.1 k hk⟩⟩⟩
def LxS (O:Nat → Prop) (w:World) (b:Nat) (s:List UInt8) (en:Bool) (k:Nat):Prop :=
  (en = false ∧ ∃ m l,runM 0 .out s = ⟨l,.inl m⟩ ∧ s.length ≤ 16777216 ∧ LxMG O w b s.length s.length .nilIface (.bool false) m (l.drop k)) ∨
  (en = true ∧ (refO s en).no = 0 ∧ s.length ≤ 16777216 ∧ LxEG O w b s.length .nilIface (.bool true) ((refO s en).toks.drop k)) ∨
  ((refO s en).no ≠ 0 ∧ ∃ dn,LxEG O w b (refO s en).found (spotE ((refO s en).no:Nat) ((refO s en).pos:Nat)) dn ((refO s en).toks.drop k))
theorem LxS.below {O:Nat → Prop} {w w':World} {b k:Nat} {s:List UInt8} {en:Bool} (h:LxS O w b s en k) (hb:Below w.heap.size w w'):LxS O w' b s en k:=by
  rcases h with ⟨h1,m,l,h2,h3,h4⟩ | ⟨h1,h2,h3,h4⟩ | ⟨h1,dn,h2⟩
  · exact .inl ⟨h1,m,l,h2,h3,h4.below hb⟩
  · exact .inr (.inl ⟨h1,h2,h3,h4.below hb⟩)
  · exact .inr (.inr ⟨h1,dn,h2.below hb⟩)
theorem LxS.apart {O O2:Nat → Prop} {w w':World} {b k:Nat} {s:List UInt8} {en:Bool} (h:LxS O w b s en k) (hf:Fr O2 w w') (hO:∀ k,k < w.heap.size → O k → ¬ O2 k):LxS O w' b s en k:=by
  rcases h with ⟨h1,m,l,h2,h3,h4⟩ | ⟨h1,h2,h3,h4⟩ | ⟨h1,dn,h2⟩
  · exact .inl ⟨h1,m,l,h2,h3,h4.apart hf hO⟩
  · exact .inr (.inl ⟨h1,h2,h3,h4.apart hf hO⟩)
  · exact .inr (.inr ⟨h1,dn,h2.apart hf hO⟩)
theorem LxS.mono {O O':Nat → Prop} {w:World} {b k:Nat} {s:List UInt8} {en:Bool} (h:LxS O w b s en k) (hO:∀ k,O k → O' k):LxS O' w b s en k:=by
  rcases h with ⟨h1,m,l,h2,h3,h4⟩ | ⟨h1,h2,h3,h4⟩ | ⟨h1,dn,h2⟩
  · exact .inl ⟨h1,m,l,h2,h3,h4.mono hO⟩
  · exact .inr (.inl ⟨h1,h2,h3,h4.mono hO⟩)
  · exact .inr (.inr ⟨h1,dn,h2.mono hO⟩)
theorem LxS.cut {O:Nat → Prop} {w:World} {b k:Nat} {s:List UInt8} {en:Bool} (h:LxS O w b s en k):LxS (fun k=>O k ∧ k < w.heap.size) w b s en k:=by
  rcases h with ⟨h1,m,l,h2,h3,h4⟩ | ⟨h1,h2,h3,h4⟩ | ⟨h1,dn,h2⟩
  · exact .inl ⟨h1,m,l,h2,h3,h4.cut⟩
  · exact .inr (.inl ⟨h1,h2,h3,h4.cut⟩)
  · exact .inr (.inr ⟨h1,dn,h2.cut⟩)
theorem refO_stuck {s:List UInt8} (h:(refO s false).no ≠ 0) (bs:List UInt8):refO (s ++ bs) false = refO s false ∧ refO s true = refO s false:=by
  have h0:=(refO_run s).1
  rcases hr:runM 0 .out s with ⟨l,f⟩
  rw [hr] at h0
  cases f with
  | inl m=>exact absurd (by rw [h0];rfl) h
  | inr x =>
    refine ⟨?_,?_⟩
    · rw [(refO_run (s ++ bs)).1,h0]
      have:=runM_append s bs 0 .out
      rw [hr] at this
      simp only at this
      rw [this]
      rfl
    · rw [(refO_run s).2,hr,h0]
      rfl
theorem lxs_new (w:World):Calls Tryz.prog 23 #[] w fun e w'=>e = .returned (.pointer (some ⟨w.heap.size,0,none⟩)) ∧
    LxS (fun k=>k = w.heap.size) w' w.heap.size [] false 0 ∧ Below w.heap.size w w' :=
  (lnew_anyG w).mono fun e w' h=>⟨h.1,.inl ⟨rfl,.out,[],rfl,by simp,h.2.1⟩,h.2.2⟩
theorem lfeed_errG (O:Nat → Prop) (b P:Nat) (no q:Nat) (dn:Value) (ts:List Tok) (A:Option Addr) (n c:Nat) (w:World) (h:LxEG O w b P (spotE (no:Nat) (q:Nat)) dn ts) :
    Calls Tryz.prog 17 #[.pointer (some ⟨b,0,none⟩),.slice A n c] w fun e w'=>e = .returned (spotE (no:Nat) (q:Nat)) ∧ w = w':=by
  obtain ⟨h1,h2,sv,inn,frv,raw,nm,ch,sy,dg,cd,hg,tk0,h5,h7⟩:=h
  have k1:=h5.cell 1
  simp at k1
  clear h1 h2 h5 h7
  go_enter Tryz.func17,Tryz.ntmps17
  go_wp2_with fail
  go_loopw [5] (fun i wr=>i = .int .i64 0 ∧ w = wr) (fun _ _=>0)
  case atStart=>exact ⟨rfl,rfl⟩
  case round =>
    obtain ⟨rfl,rfl⟩:=hrel
    by_cases hn:0 < n
    · have t1:decide ((0:Int) < (n:Int)) = true:=decide_eq_true (by omega)
      go_wp2_with fail
      go_ret
      exact ⟨rfl,rfl⟩
    · have t1:decide ((0:Int) < (n:Int)) = false:=decide_eq_false (by omega)
      go_wp2_with fail
      go_ret
      exact ⟨rfl,rfl⟩
theorem lfeed_doneG (O:Nat → Prop) (b P:Nat) (ts:List Tok) (A:Option Addr) (n c:Nat) (w:World) (h:LxEG O w b P .nilIface (.bool true) ts) :
    Calls Tryz.prog 17 #[.pointer (some ⟨b,0,none⟩),.slice A n c] w fun e w'=>e = .returned (.iface 30 (.int .i64 96)) ∧ w = w':=by
  obtain ⟨h1,h2,sv,inn,frv,raw,nm,ch,sy,dg,cd,hg,tk0,h5,h7⟩:=h
  have k1:=h5.cell 1
  have k2:=h5.cell 2
  simp at k1 k2
  clear h1 h2 h5 h7
  go_enter Tryz.func17,Tryz.ntmps17
  go_wp2_with fail
  go_ret
  exact ⟨rfl,rfl⟩
theorem lend_doneG (O:Nat → Prop) (b P:Nat) (ts:List Tok) (w:World) (h:LxEG O w b P .nilIface (.bool true) ts) :
    Calls Tryz.prog 18 #[.pointer (some ⟨b,0,none⟩)] w fun e w'=>e = .returned (.iface 30 (.int .i64 96)) ∧ w = w':=by
  obtain ⟨h1,h2,sv,inn,frv,raw,nm,ch,sy,dg,cd,hg,tk0,h5,h7⟩:=h
  have k1:=h5.cell 1
  have k2:=h5.cell 2
  simp at k1 k2
  clear h1 h2 h5 h7
  go_enter Tryz.func18,Tryz.ntmps18
  go_wp2_with fail
  go_ret
  exact ⟨rfl,rfl⟩
theorem lxs_feed (O:Nat → Prop) (b k:Nat) (s:List UInt8) (A:Option Addr) (n c B:Nat) (bs:List UInt8) (w:World) (h:LxS O w b s false k) (hk:k ≤ (refO s false).toks.length)
    (hr:RB w B A n bs) (hB:B ≤ w.heap.size) (hne:∀ g o,A = some ⟨g,o,none⟩ → 0 < n → ¬ O g) (hn:n ≤ 1000000000000) :
    Calls Tryz.prog 17 #[.pointer (some ⟨b,0,none⟩),.slice A n c] w fun e w' =>
      e = .returned (errV (refO (s ++ bs) false).no (refO (s ++ bs) false).pos) ∧ LxS (up O w) w' b (s ++ bs) false k ∧ k ≤ (refO (s ++ bs) false).toks.length ∧ Fr O w w':=by
  have hl:=hr.1
  rcases h with ⟨_,m,l,h2,h3,h4⟩ | ⟨h1,_⟩ | ⟨h1,dn,h2⟩
  · have hs0:refO s false = ⟨l,0,0,0,heldM s.length m⟩:=by rw [(refO_run s).1,h2];rfl
    rw [hs0] at hk
    simp only at hk
    have hap:=runM_append s bs 0 .out
    rw [h2] at hap
    simp only [Nat.zero_add] at hap
    have hro:=(refO_run (s ++ bs)).1
    rw [hap] at hro
    refine (lfeed_anyG O b s.length (l.drop k) m A n c B bs w h4 h3 hr hB hne hn).mono ?_
    intro e w' hp
    unfold FdPG at hp
    rcases hrm:runM s.length m bs with ⟨l2,f⟩
    rw [hrm] at hp hro hap
    have hlen:k ≤ (l ++ l2).length:=by rw [List.length_append];omega
    cases f with
    | inl m' =>
      obtain ⟨rfl,g1,g2,g3⟩:=hp
      have hro':refO (s ++ bs) false = ⟨l ++ l2,0,0,0,heldM (s ++ bs).length m'⟩:=hro
      rw [hro']
      refine ⟨rfl,.inl ⟨rfl,m',l ++ l2,hap,by simp;omega,?_⟩,hlen,g3⟩
      rw [List.drop_append_of_le_length hk,List.length_append,hl]
      exact g1
    | inr x =>
      obtain ⟨rfl,g1,g3⟩:=hp
      have hro':refO (s ++ bs) false = ⟨l ++ l2,x.1,x.2.1,x.2.2,0⟩:=hro
      have hx:x.1 ≠ 0:=runM_no hap
      rw [hro']
      refine ⟨by unfold errV;rw [if_neg hx],.inr (.inr ⟨by rw [hro'];exact hx,.bool false,?_⟩),hlen,g3⟩
      rw [hro']
      simp only
      rw [List.drop_append_of_le_length hk]
      exact g1
  · cases h1
  · obtain ⟨e1,_⟩:=refO_stuck h1 bs
    rw [e1]
    refine (lfeed_errG O b _ _ _ dn _ A n c w h2).mono ?_
    rintro e w' ⟨rfl,rfl⟩
    refine ⟨by unfold errV;rw [if_neg h1],.inr (.inr ⟨by rw [e1];exact h1,dn,?_⟩),hk,Fr.refl _ _⟩
    rw [e1]
    exact h2.mono up_of
theorem lxs_end (O:Nat → Prop) (b k:Nat) (s:List UInt8) (w:World) (h:LxS O w b s false k) (hk:k ≤ (refO s false).toks.length) :
    Calls Tryz.prog 18 #[.pointer (some ⟨b,0,none⟩)] w fun e w' =>
      e = .returned (errV (refO s true).no (refO s true).pos) ∧ LxS (up O w) w' b s true k ∧ k ≤ (refO s true).toks.length ∧ Fr O w w':=by
  rcases h with ⟨_,m,l,h2,h3,h4⟩ | ⟨h1,_⟩ | ⟨h1,dn,h2⟩
  · have hs0:refO s false = ⟨l,0,0,0,heldM s.length m⟩:=by rw [(refO_run s).1,h2];rfl
    rw [hs0] at hk
    simp only at hk
    have hro:=(refO_run s).2
    rw [h2] at hro
    have hro':refO s true = ⟨l ++ (endM flP s.length m).1,(endM flP s.length m).2.1,(endM flP s.length m).2.2,if (endM flP s.length m).2.1 = 0 then 0 else s.length,0⟩:=hro
    refine (lend_anyG O b s.length (l.drop k) m w h4 h3).mono ?_
    intro e w' hp
    unfold EndPG endV at hp
    rcases hrm:endM flP s.length m with ⟨l2,no,at_⟩
    rw [hrm] at hp hro'
    obtain ⟨rfl,g1,g2⟩:=hp
    simp only at hro' g1
    have hlen:k ≤ (l ++ l2).length:=by rw [List.length_append];omega
    by_cases h0:no = 0
    · subst h0
      rw [if_pos rfl] at hro' g1
      refine ⟨by rw [hro'];rfl,.inr (.inl ⟨rfl,by rw [hro'],h3,?_⟩),by rw [hro'];exact hlen,g2⟩
      rw [hro']
      simp only
      rw [List.drop_append_of_le_length hk]
      exact g1
    · rw [if_neg h0] at hro' g1
      refine ⟨by rw [hro'];unfold errV;simp only [if_neg h0],.inr (.inr ⟨by rw [hro'];exact h0,.bool true,?_⟩),by rw [hro'];exact hlen,g2⟩
      rw [hro']
      simp only
      rw [List.drop_append_of_le_length hk]
      exact g1
  · cases h1
  · obtain ⟨_,e1⟩:=refO_stuck h1 []
    rw [e1]
    refine (lend_errG O b _ _ _ dn _ w h2).mono ?_
    rintro e w' ⟨rfl,rfl⟩
    refine ⟨by unfold errV;rw [if_neg h1],.inr (.inr ⟨by rw [e1];exact h1,dn,?_⟩),hk,Fr.refl _ _⟩
    rw [e1]
    exact h2.mono up_of
theorem lxs_feed_err (O:Nat → Prop) (b k:Nat) (s:List UInt8) (en:Bool) (A:Option Addr) (n c:Nat) (w:World) (h:LxS O w b s en k) (h0:(refO s en).no ≠ 0) :
    Calls Tryz.prog 17 #[.pointer (some ⟨b,0,none⟩),.slice A n c] w fun e w'=>e = .returned (errV (refO s en).no (refO s en).pos) ∧ w = w':=by
  rcases h with ⟨h1,m,l,h2,_⟩ | ⟨_,h1,_⟩ | ⟨h1,dn,h2⟩
  · exact absurd (by rw [h1,(refO_run s).1,h2];rfl) h0
  · exact absurd h1 h0
  · unfold errV
    rw [if_neg h1]
    exact lfeed_errG O b _ _ _ dn _ A n c w h2
theorem lxs_end_err (O:Nat → Prop) (b k:Nat) (s:List UInt8) (en:Bool) (w:World) (h:LxS O w b s en k) (h0:(refO s en).no ≠ 0) :
    Calls Tryz.prog 18 #[.pointer (some ⟨b,0,none⟩)] w fun e w'=>e = .returned (errV (refO s en).no (refO s en).pos) ∧ w = w':=by
  rcases h with ⟨h1,m,l,h2,_⟩ | ⟨_,h1,_⟩ | ⟨h1,dn,h2⟩
  · exact absurd (by rw [h1,(refO_run s).1,h2];rfl) h0
  · exact absurd h1 h0
  · unfold errV
    rw [if_neg h1]
    exact lend_errG O b _ _ _ dn _ w h2
theorem lxs_feed_done (O:Nat → Prop) (b k:Nat) (s:List UInt8) (A:Option Addr) (n c:Nat) (w:World) (h:LxS O w b s true k) (h0:(refO s true).no = 0) :
    Calls Tryz.prog 17 #[.pointer (some ⟨b,0,none⟩),.slice A n c] w fun e w'=>e = .returned (.iface 30 (.int .i64 96)) ∧ w = w':=by
  rcases h with ⟨h1,_⟩ | ⟨_,_,_,h2⟩ | ⟨h1,_⟩
  · cases h1
  · exact lfeed_doneG O b _ _ A n c w h2
  · exact absurd h0 h1
theorem lxs_end_done (O:Nat → Prop) (b k:Nat) (s:List UInt8) (w:World) (h:LxS O w b s true k) (h0:(refO s true).no = 0) :
    Calls Tryz.prog 18 #[.pointer (some ⟨b,0,none⟩)] w fun e w'=>e = .returned (.iface 30 (.int .i64 96)) ∧ w = w':=by
  rcases h with ⟨h1,_⟩ | ⟨_,_,_,h2⟩ | ⟨h1,_⟩
  · cases h1
  · exact lend_doneG O b _ _ w h2
  · exact absurd h0 h1
end Go.Proofs.YtgmholdkdppbmaaGreatDoor.Lx

namespace Go.Proofs.YtgmholdkdppbmaaGreatDoor.Lx
open Go.RowKit
set_option maxRecDepth 100000 in
theorem next_some (O:Nat → Prop) (b:Nat) (c0 c1 c2 c3 c4 c5 c6 c7 c8 c9 c10 c11 c12 tk:Value) (t:Tok) (vs:List Value) (w:World) (hb:Blk w b 80 #[c0,c1,c2,c3,c4,c5,c6,c7,c8,c9,c10,c11,c12,tk])
    (ht:TRowG O w tk (tokV t :: vs)) :
    Calls Tryz.prog 15 #[.pointer (some ⟨b,0,none⟩)] w fun e w'=>e = .returned (.tuple #[tokV t,.bool true]) ∧ ∃ tk',w' = w.setCell ⟨b,13,none⟩ tk' ∧ TRowG O w tk' vs:=by
  obtain ⟨hown,hO⟩:=ht
  obtain ⟨A,c,rfl,hlc⟩:=town_shape hown
  obtain ⟨htl,_,_,g,o,rfl,hcell⟩:=town_tail hown
  simp only [List.length_cons,Nat.add_sub_cancel] at hlc htl
  have k13:=hb.cell 13
  have f13:=hb.frozen 13
  simp at k13
  generalize vs.length = n at *
  obtain ⟨ty,u,htv⟩:∃ ty u,tokV t = .iface ty u:=by unfold tokV;cases t.k <;> exact ⟨_,_,rfl⟩
  rw [htv] at hcell ⊢
  obtain ⟨A3,hA3⟩:∃ A3,(if c = 1 then (some ⟨g,o,none⟩:Option Addr) else Option.map (fun x:Addr=>x.add 1) (some (⟨g,o,none⟩:Addr))) = A3:=⟨_,rfl⟩
  rw [hA3] at htl
  have hA4:(if c = 1 then (some ⟨g,o,none⟩:Option Addr) else some ⟨g,o + 1,none⟩) = A3:=by rw [← hA3];simp [Addr.add]
  have e0:(((n + 1:Nat):Int) == 0) = false:=by simp;omega
  have e1:((n:Int) + 1 == 0) = false:=by simp;omega
  have HT:Go.RowKit.Hid (TRowG O w (.slice A3 n (c - 1)) vs):=Lib.hid ⟨htl,fun k hk=>hO k (by
    rw [← hA3] at hk
    revert hk
    split <;> simp [Value.ownBlock,Addr.add])⟩
  have hc1:(1:Int) ≤ (c:Int):=by omega
  have hn1:(1:Int) ≤ (n:Int) + 1:=by omega
  have hnc:(n:Int) + 1 ≤ (c:Int):=by omega
  have ec:((c:Int) - 1) = ((c - 1:Nat):Int):=by omega
  clear hown hO hb htl
  go_enter Tryz.func15,Tryz.ntmps15
  go_wp2_with fail
  exact bodyPost_ret (v:=.tuple #[.iface ty u,.bool true]) (by simp [results,Tryz.results15,go_sem]) rfl ⟨rfl,_,rfl,HT.out⟩
theorem next_none (O:Nat → Prop) (b:Nat) (c0 c1 c2 c3 c4 c5 c6 c7 c8 c9 c10 c11 c12 tk:Value) (w:World) (hb:Blk w b 80 #[c0,c1,c2,c3,c4,c5,c6,c7,c8,c9,c10,c11,c12,tk])
    (ht:TRowG O w tk []) :
    Calls Tryz.prog 15 #[.pointer (some ⟨b,0,none⟩)] w fun e w'=>e = .returned (.tuple #[.nilIface,.bool false]) ∧ w = w':=by
  obtain ⟨hown,hO⟩:=ht
  obtain ⟨A,c,rfl,hlc⟩:=town_shape hown
  simp only [List.length_nil] at *
  have k13:=hb.cell 13
  simp at k13
  clear hown hO hb
  go_enter Tryz.func15,Tryz.ntmps15
  go_wp2_with fail
  exact bodyPost_ret (v:=.tuple #[.nilIface,.bool false]) (by simp [results,Tryz.results15,go_sem]) rfl ⟨rfl,rfl⟩
theorem LxMG.told {O:Nat → Prop} {w:World} {b P Q:Nat} {er dn:Value} {m:Md} {t:Tok} {ts:List Tok} (h:LxMG O w b P Q er dn m (t :: ts)) :
    Calls Tryz.prog 15 #[.pointer (some ⟨b,0,none⟩)] w fun e w'=>e = .returned (.tuple #[tokV t,.bool true]) ∧ LxMG O w' b P Q er dn m ts ∧ Fr O w w':=by
  obtain ⟨h1,h2,h3,h4,st,inn,fr,raw,nm,ch,sy,dg,cd,hg,tk,h5,h6,h7⟩:=h
  refine (next_some O b _ _ _ _ _ _ _ _ _ _ _ _ _ tk t (ts.map tokV) w h5 (by simpa using h7)).mono ?_
  rintro e w' ⟨rfl,tk',rfl,ht⟩
  have b1:=h5.set1 13 tk'
  simp at b1
  refine ⟨rfl,⟨h1,h2,by simp at h3;omega,h4,_,_,_,_,_,_,_,_,_,_,_,b1,h6.keep (fun k t cs s hk ht hO=>Below.heap_setCell _ _ _ k (fun e=>?_)),ht.set h5 13 tk'⟩,(Fr.refl _ _).setCell (p:=⟨b,13,none⟩) h1 _⟩
  unfold Blk at h5
  change k = b at e
  rw [e,h5] at hk
  injection hk with hk
  injection hk with _ hk
  rcases ht with ht | ht <;> (rw [ht] at hk;revert hk;decide)
theorem LxEG.told {O:Nat → Prop} {w:World} {b P:Nat} {er dn:Value} {t:Tok} {ts:List Tok} (h:LxEG O w b P er dn (t :: ts)) :
    Calls Tryz.prog 15 #[.pointer (some ⟨b,0,none⟩)] w fun e w'=>e = .returned (.tuple #[tokV t,.bool true]) ∧ LxEG O w' b P er dn ts ∧ Fr O w w':=by
  obtain ⟨h1,h2,st,inn,fr,raw,nm,ch,sy,dg,cd,hg,tk,h5,h7⟩:=h
  refine (next_some O b _ _ _ _ _ _ _ _ _ _ _ _ _ tk t (ts.map tokV) w h5 (by simpa using h7)).mono ?_
  rintro e w' ⟨rfl,tk',rfl,ht⟩
  have b1:=h5.set1 13 tk'
  simp at b1
  exact ⟨rfl,⟨h1,h2,_,_,_,_,_,_,_,_,_,_,_,b1,ht.set h5 13 tk'⟩,(Fr.refl _ _).setCell (p:=⟨b,13,none⟩) h1 _⟩
theorem drop_some {α:Type} {l:List α} {k:Nat} {t:α} (h:l[k]? = some t):l.drop k = t :: l.drop (k + 1):=by
  obtain ⟨hk,hv⟩:=List.getElem?_eq_some_iff.1 h
  rw [List.drop_eq_getElem_cons hk,hv]
theorem lxs_next (O:Nat → Prop) (b k:Nat) (s:List UInt8) (en:Bool) (t:Tok) (w:World) (h:LxS O w b s en k) (ht:(refO s en).toks[k]? = some t) :
    Calls Tryz.prog 15 #[.pointer (some ⟨b,0,none⟩)] w fun e w'=>e = .returned (.tuple #[tokV t,.bool true]) ∧ LxS O w' b s en (k + 1) ∧ Fr O w w':=by
  rcases h with ⟨h1,m,l,h2,h3,h4⟩ | ⟨h1,h2,h3,h4⟩ | ⟨h1,dn,h2⟩
  · subst h1
    have hs0:(refO s false).toks = l:=by rw [(refO_run s).1,h2];rfl
    rw [hs0] at ht
    rw [drop_some ht] at h4
    exact h4.told.mono (fun e w' h=>⟨h.1,.inl ⟨rfl,m,l,h2,h3,h.2.1⟩,h.2.2⟩)
  · rw [drop_some ht] at h4
    exact h4.told.mono (fun e w' h=>⟨h.1,.inr (.inl ⟨h1,h2,h3,h.2.1⟩),h.2.2⟩)
  · rw [drop_some ht] at h2
    exact h2.told.mono (fun e w' h=>⟨h.1,.inr (.inr ⟨h1,dn,h.2.1⟩),h.2.2⟩)
theorem lxs_last (O:Nat → Prop) (b k:Nat) (s:List UInt8) (en:Bool) (w:World) (h:LxS O w b s en k) (hk:(refO s en).toks.length ≤ k) :
    Calls Tryz.prog 15 #[.pointer (some ⟨b,0,none⟩)] w fun e w'=>e = .returned (.tuple #[.nilIface,.bool false]) ∧ w = w':=by
  rcases h with ⟨h1,m,l,h2,h3,h4⟩ | ⟨h1,h2,h3,h4⟩ | ⟨h1,dn,h2⟩
  · subst h1
    have hs0:(refO s false).toks = l:=by rw [(refO_run s).1,h2];rfl
    rw [hs0] at hk
    rw [List.drop_eq_nil_of_le hk] at h4
    obtain ⟨h1,h2,h3,h4,st,inn,fr,raw,nm,ch,sy,dg,cd,hg,tk,h5,h6,h7⟩:=h4
    exact next_none O b _ _ _ _ _ _ _ _ _ _ _ _ _ tk w h5 h7
  · rw [List.drop_eq_nil_of_le hk] at h4
    obtain ⟨h1,h2,st,inn,fr,raw,nm,ch,sy,dg,cd,hg,tk,h5,h7⟩:=h4
    exact next_none O b _ _ _ _ _ _ _ _ _ _ _ _ _ tk w h5 h7
  · rw [List.drop_eq_nil_of_le hk] at h2
    obtain ⟨h1,h2,st,inn,fr,raw,nm,ch,sy,dg,cd,hg,tk,h5,h7⟩:=h2
    exact next_none O b _ _ _ _ _ _ _ _ _ _ _ _ _ tk w h5 h7
theorem place_blk (b P:Nat) (c1 c2 c3 c4 c5 c6 c7 c8 c9 c10 c11 c12 tk:Value) (w:World) (hb:Blk w b 80 #[.int .i64 (P:Nat),c1,c2,c3,c4,c5,c6,c7,c8,c9,c10,c11,c12,tk]) :
    Calls Tryz.prog 19 #[.pointer (some ⟨b,0,none⟩)] w fun e w'=>e = .returned (.int .i64 (P:Nat)) ∧ w = w':=by
  have k0:=hb.cell 0
  simp at k0
  clear hb
  go_enter Tryz.func19,Tryz.ntmps19
  go_wp2_with fail
  go_ret
  exact ⟨rfl,rfl⟩
theorem lxs_place (O:Nat → Prop) (b k:Nat) (s:List UInt8) (en:Bool) (w:World) (h:LxS O w b s en k) (P:Nat) (hP:(if (refO s en).no = 0 then s.length else (refO s en).found) = P) :
    Calls Tryz.prog 19 #[.pointer (some ⟨b,0,none⟩)] w fun e w'=>e = .returned (.int .i64 (P:Nat)) ∧ w = w':=by
  rcases h with ⟨h1,m,l,h2,h3,h4⟩ | ⟨h1,h2,h3,h4⟩ | ⟨h1,dn,h2⟩
  · subst h1
    have hs0:(refO s false).no = 0:=by rw [(refO_run s).1,h2];rfl
    rw [if_pos hs0] at hP
    subst hP
    obtain ⟨h1,h2,h3,h4,st,inn,fr,raw,nm,ch,sy,dg,cd,hg,tk,h5,h6,h7⟩:=h4
    exact place_blk b _ _ _ _ _ _ _ _ _ _ _ _ _ _ w h5
  · rw [if_pos h2] at hP
    subst hP
    obtain ⟨h1,h2,st,inn,fr,raw,nm,ch,sy,dg,cd,hg,tk,h5,h7⟩:=h4
    exact place_blk b _ _ _ _ _ _ _ _ _ _ _ _ _ _ w h5
  · rw [if_neg h1] at hP
    subst hP
    obtain ⟨h1,h2,st,inn,fr,raw,nm,ch,sy,dg,cd,hg,tk,h5,h7⟩:=h2
    exact place_blk b _ _ _ _ _ _ _ _ _ _ _ _ _ _ w h5
theorem held_in (b P f:Nat) (c3 c6 c7 c8 c9 c10 c11 c12 tk:Value) (w:World) (hb:Blk w b 80 #[.int .i64 (P:Nat),.nilIface,.bool false,c3,.bool true,.int .i64 (f:Nat),c6,c7,c8,c9,c10,c11,c12,tk]) (hf:f ≤ P) (hP:P ≤ 1000000000) :
    Calls Tryz.prog 20 #[.pointer (some ⟨b,0,none⟩)] w fun e w'=>e = .returned (.int .i64 ((P - f:Nat):Int)) ∧ Below w.heap.size w w':=by
  have k0:=hb.cell 0
  have k1:=hb.cell 1
  have k2:=hb.cell 2
  have k4:=hb.cell 4
  have k5:=hb.cell 5
  simp at k0 k1 k2 k4 k5
  have hs:(P:Int) - (f:Int) = ((P - f:Nat):Int):=by omega
  generalize P - f = d at *
  have hw:IntKind.i64.wrap ((P:Int) - (f:Int)) = (d:Int):=by rw [hs];exact IntWalk.i64_in _ (by omega)
  have HH:Calls Tryz.prog 35 #[.pointer (some ⟨b,0,none⟩)] w fun e w'=>e = .returned (.int .i64 (d:Nat)) ∧ Below w.heap.size w w':=by
    clear hb k1 k2
    go_enter Tryz.func35,Tryz.ntmps35
    go_wp2_with fail
    go_quiet (fail)
    go_wp2_with fail
    go_ret
    exact ⟨rfl,below_drewN (Below.refl _ _) _⟩
  have HH:=Lib.hid HH
  clear hb k0 k4 k5 hs hw
  go_enter Tryz.func20,Tryz.ntmps20
  go_wp2_with fail
  refine HH.out.mono ?_
  rintro e w' ⟨rfl,hb⟩
  go_wp2_with fail
  go_ret
  exact ⟨rfl,hb⟩
theorem held_out (b:Nat) (c0 c3 c5 c6 c7 c8 c9 c10 c11 c12 tk:Value) (w:World) (hb:Blk w b 80 #[c0,.nilIface,.bool false,c3,.bool false,c5,c6,c7,c8,c9,c10,c11,c12,tk]) :
    Calls Tryz.prog 20 #[.pointer (some ⟨b,0,none⟩)] w fun e w'=>e = .returned (.int .i64 0) ∧ Below w.heap.size w w':=by
  have k1:=hb.cell 1
  have k2:=hb.cell 2
  have k4:=hb.cell 4
  simp at k1 k2 k4
  have HH:Calls Tryz.prog 35 #[.pointer (some ⟨b,0,none⟩)] w fun e w'=>e = .returned (.int .i64 0) ∧ Below w.heap.size w w':=by
    clear hb k1 k2
    go_enter Tryz.func35,Tryz.ntmps35
    go_wp2_with fail
    go_ret
    exact ⟨rfl,Below.refl _ _⟩
  have HH:=Lib.hid HH
  clear hb k4
  go_enter Tryz.func20,Tryz.ntmps20
  go_wp2_with fail
  refine HH.out.mono ?_
  rintro e w' ⟨rfl,hb⟩
  go_wp2_with fail
  go_ret
  exact ⟨rfl,hb⟩
theorem held_err (b:Nat) (no q:Int) (c0 c2 c3 c4 c5 c6 c7 c8 c9 c10 c11 c12 tk:Value) (w:World) (hb:Blk w b 80 #[c0,spotE no q,c2,c3,c4,c5,c6,c7,c8,c9,c10,c11,c12,tk]) :
    Calls Tryz.prog 20 #[.pointer (some ⟨b,0,none⟩)] w fun e w'=>e = .returned (.int .i64 0) ∧ Below w.heap.size w w':=by
  have k1:=hb.cell 1
  simp at k1
  clear hb
  go_enter Tryz.func20,Tryz.ntmps20
  go_wp2_with fail
  go_ret
  exact ⟨rfl,Below.refl _ _⟩
theorem held_done (b:Nat) (c0 c3 c4 c5 c6 c7 c8 c9 c10 c11 c12 tk:Value) (w:World) (hb:Blk w b 80 #[c0,.nilIface,.bool true,c3,c4,c5,c6,c7,c8,c9,c10,c11,c12,tk]) :
    Calls Tryz.prog 20 #[.pointer (some ⟨b,0,none⟩)] w fun e w'=>e = .returned (.int .i64 0) ∧ Below w.heap.size w w':=by
  have k1:=hb.cell 1
  have k2:=hb.cell 2
  simp at k1 k2
  clear hb
  go_enter Tryz.func20,Tryz.ntmps20
  go_wp2_with fail
  go_ret
  exact ⟨rfl,Below.refl _ _⟩
theorem refO_held (s:List UInt8) (en:Bool) (h:(refO s en).no ≠ 0 ∨ en = true):(refO s en).held = 0:=by
  rcases hr:runM 0 .out s with ⟨l,f⟩
  have h1:=(refO_run s).1
  have h2:=(refO_run s).2
  rw [hr] at h1 h2
  cases f with
  | inl m =>
    rcases h with h | rfl
    · cases en with
      | false=>rw [h1] at h;exact absurd rfl h
      | true=>rw [h2];rfl
    · rw [h2];rfl
  | inr x=>cases en <;> simp only [h1,h2] <;> rfl
theorem lxs_held (O:Nat → Prop) (b k:Nat) (s:List UInt8) (en:Bool) (w:World) (h:LxS O w b s en k) (H:Nat) (hH:(refO s en).held = H) :
    Calls Tryz.prog 20 #[.pointer (some ⟨b,0,none⟩)] w fun e w'=>e = .returned (.int .i64 (H:Nat)) ∧ Below w.heap.size w w':=by
  rcases h with ⟨h1,m,l,h2,h3,h4⟩ | ⟨h1,h2,h3,h4⟩ | ⟨h1,dn,h2⟩
  · subst h1
    have hs0:(refO s false).held = heldM s.length m:=by rw [(refO_run s).1,h2];rfl
    rw [hs0] at hH
    subst hH
    obtain ⟨h1,h2,h3',h4,st,inn,fr,raw,nm,ch,sy,dg,cd,hg,tk,h5,h6,h7⟩:=h4
    cases m with
    | out=>obtain ⟨_,rfl⟩:=h6;exact held_out b _ _ _ _ _ _ _ _ _ _ _ w h5
    | num f st raw=>obtain ⟨_,rfl,rfl,_⟩:=h6;exact held_in b _ f _ _ _ _ _ _ _ _ _ w h5 (by have:=h4.1;omega) (by omega)
    | word f raw=>obtain ⟨_,rfl,rfl,_⟩:=h6;exact held_in b _ f _ _ _ _ _ _ _ _ _ w h5 (by have:=h4.1;omega) (by omega)
    | txt f says held=>obtain ⟨_,rfl,rfl,_⟩:=h6;exact held_in b _ f _ _ _ _ _ _ _ _ _ w h5 (by have:=h4.1;omega) (by omega)
    | esc f says=>obtain ⟨_,rfl,rfl,_⟩:=h6;exact held_in b _ f _ _ _ _ _ _ _ _ _ w h5 (by have:=h4.1;omega) (by omega)
    | dig f says n code high=>obtain ⟨_,rfl,rfl,_⟩:=h6;exact held_in b _ f _ _ _ _ _ _ _ _ _ w h5 (by have:=h4.1;omega) (by omega)
    | sla f says high=>obtain ⟨_,rfl,rfl,_⟩:=h6;exact held_in b _ f _ _ _ _ _ _ _ _ _ w h5 (by have:=h4.1;omega) (by omega)
    | leu f says high=>obtain ⟨_,rfl,rfl,_⟩:=h6;exact held_in b _ f _ _ _ _ _ _ _ _ _ w h5 (by have:=h4.1;omega) (by omega)
  · rw [refO_held s en (.inr h1)] at hH
    subst hH
    obtain ⟨h1,h2,st,inn,fr,raw,nm,ch,sy,dg,cd,hg,tk,h5,h7⟩:=h4
    exact held_done b _ _ _ _ _ _ _ _ _ _ _ _ w h5
  · rw [refO_held s en (.inl h1)] at hH
    subst hH
    obtain ⟨h1,h2,st,inn,fr,raw,nm,ch,sy,dg,cd,hg,tk,h5,h7⟩:=h2
    exact held_err b _ _ _ _ _ _ _ _ _ _ _ _ _ _ _ w h5
end Go.Proofs.YtgmholdkdppbmaaGreatDoor.Lx

namespace Go.Proofs.YtgmholdkdppbmaaGreatDoor.Lx
open Go.RowKit
theorem Fr.above {O:Nat → Prop} {w0 w w':World} (h:Fr O w w') (hs:w0.heap.size ≤ w.heap.size) (hO:∀ j,O j → w0.heap.size ≤ j):Below w0.heap.size w w' :=
  h.toBelow hs (fun k hk ho=>by have:=hO k ho;omega)
def One (w0 w:World) (b:Nat) (s:List UInt8) (en:Bool) (k:Nat):Prop :=
  ∃ O:Nat → Prop,LxS O w b s en k ∧ (∀ j,O j → w0.heap.size ≤ j ∧ j < w.heap.size) ∧ w0.heap.size ≤ w.heap.size ∧ k ≤ (refO s en).toks.length
def Two (w0 w:World) (b1:Nat) (s1:List UInt8) (e1:Bool) (k1:Nat) (b2:Nat) (s2:List UInt8) (e2:Bool) (k2:Nat):Prop :=
  ∃ O1 O2:Nat → Prop,LxS O1 w b1 s1 e1 k1 ∧ LxS O2 w b2 s2 e2 k2 ∧ (∀ j,O1 j → w0.heap.size ≤ j ∧ j < w.heap.size) ∧ (∀ j,O2 j → w0.heap.size ≤ j ∧ j < w.heap.size) ∧ (∀ j,O1 j → O2 j → False) ∧ w0.heap.size ≤ w.heap.size ∧ k1 ≤ (refO s1 e1).toks.length ∧ k2 ≤ (refO s2 e2).toks.length
section
variable {w0 w w':World} {b b1 b2 k k1 k2:Nat} {s s1 s2:List UInt8} {en e1 e2:Bool}
theorem One.below (h:One w0 w b s en k) (hb:Below w.heap.size w w'):One w0 w' b s en k:=by
  obtain ⟨O,h1,h2,h3,h4⟩:=h
  have hs:=hb.size
  exact ⟨O,h1.below hb,fun j hj=>by have:=h2 j hj;omega,by omega,h4⟩
theorem Two.below (h:Two w0 w b1 s1 e1 k1 b2 s2 e2 k2) (hb:Below w.heap.size w w'):Two w0 w' b1 s1 e1 k1 b2 s2 e2 k2:=by
  obtain ⟨O1,O2,h1,h2,h3,h4,h5,h6,h7⟩:=h
  have hs:=hb.size
  exact ⟨O1,O2,h1.below hb,h2.below hb,fun j hj=>by have:=h3 j hj;omega,fun j hj=>by have:=h4 j hj;omega,h5,by omega,h7⟩
theorem Two.swap (h:Two w0 w b1 s1 e1 k1 b2 s2 e2 k2):Two w0 w b2 s2 e2 k2 b1 s1 e1 k1:=by
  obtain ⟨O1,O2,h1,h2,h3,h4,h5,h6,h7,h8⟩:=h
  exact ⟨O2,O1,h2,h1,h4,h3,fun j a b=>h5 j b a,h6,h8,h7⟩
theorem Two.step {O1 O2:Nat → Prop} {s':List UInt8} {e':Bool} {k':Nat} (h2:LxS O2 w b2 s2 e2 k2) (h3:∀ j,O1 j → w0.heap.size ≤ j ∧ j < w.heap.size) (h4:∀ j,O2 j → w0.heap.size ≤ j ∧ j < w.heap.size) (h5:∀ j,O1 j → O2 j → False) (h6:w0.heap.size ≤ w.heap.size)
    (h8:k2 ≤ (refO s2 e2).toks.length) (g1:LxS (up O1 w) w' b1 s' e' k') (g2:k' ≤ (refO s' e').toks.length) (g3:Fr O1 w w'):Two w0 w' b1 s' e' k' b2 s2 e2 k2 ∧ Below w0.heap.size w w':=by
  have hs:=g3.size
  refine ⟨⟨fun j=>up O1 w j ∧ j < w'.heap.size,O2,g1.cut,h2.apart g3 (fun j _ a b=>h5 j b a),fun j hj=>?_,fun j hj=>by have:=h4 j hj;omega,fun j a b=>?_,by omega,g2,h8⟩,g3.above h6 (fun j hj=>(h3 j hj).1)⟩
  · rcases hj with ⟨hj | hj,hl⟩
    · exact ⟨(h3 j hj).1,hl⟩
    · exact ⟨by omega,hl⟩
  · rcases a with ⟨a | a,_⟩
    · exact h5 j a b
    · have:=(h4 j b).2;omega
theorem One.step {O:Nat → Prop} {s':List UInt8} {e':Bool} {k':Nat} (h3:∀ j,O j → w0.heap.size ≤ j ∧ j < w.heap.size) (h6:w0.heap.size ≤ w.heap.size)
    (g1:LxS (up O w) w' b s' e' k') (g2:k' ≤ (refO s' e').toks.length) (g3:Fr O w w'):One w0 w' b s' e' k' ∧ Below w0.heap.size w w':=by
  have hs:=g3.size
  refine ⟨⟨fun j=>up O w j ∧ j < w'.heap.size,g1.cut,fun j hj=>?_,by omega,g2⟩,g3.above h6 (fun j hj=>(h3 j hj).1)⟩
  rcases hj with ⟨hj | hj,hl⟩
  · exact ⟨(h3 j hj).1,hl⟩
  · exact ⟨by omega,hl⟩
theorem two_feed (h:Two w0 w b1 s1 false k1 b2 s2 e2 k2) (A:Option Addr) (n c:Nat) (bs:List UInt8) (hr:RB w w0.heap.size A n bs) (hn:n ≤ 1000000000000) :
    Calls Tryz.prog 17 #[.pointer (some ⟨b1,0,none⟩),.slice A n c] w fun e w' =>
      (∃ v,e = .returned v) ∧ Two w0 w' b1 (s1 ++ bs) false k1 b2 s2 e2 k2 ∧ Below w0.heap.size w w':=by
  obtain ⟨O1,O2,h1,h2,h3,h4,h5,h6,h7,h8⟩:=h
  refine (lxs_feed O1 b1 k1 s1 A n c w0.heap.size bs w h1 h7 hr h6 (fun g o hA hp ho=>by have:=hr.lt g o hA hp;have:=h3 g ho;omega) hn).mono ?_
  rintro e w' ⟨rfl,g1,g2,g3⟩
  exact ⟨⟨_,rfl⟩,Two.step h2 h3 h4 h5 h6 h8 g1 g2 g3⟩
theorem two_end (h:Two w0 w b1 s1 false k1 b2 s2 e2 k2) :
    Calls Tryz.prog 18 #[.pointer (some ⟨b1,0,none⟩)] w fun e w' =>
      e = .returned (errV (refO s1 true).no (refO s1 true).pos) ∧ Two w0 w' b1 s1 true k1 b2 s2 e2 k2 ∧ Below w0.heap.size w w':=by
  obtain ⟨O1,O2,h1,h2,h3,h4,h5,h6,h7,h8⟩:=h
  refine (lxs_end O1 b1 k1 s1 w h1 h7).mono ?_
  rintro e w' ⟨rfl,g1,g2,g3⟩
  exact ⟨rfl,Two.step h2 h3 h4 h5 h6 h8 g1 g2 g3⟩
theorem two_next (h:Two w0 w b1 s1 e1 k1 b2 s2 e2 k2) (t:Tok) (ht:(refO s1 e1).toks[k1]? = some t) :
    Calls Tryz.prog 15 #[.pointer (some ⟨b1,0,none⟩)] w fun e w' =>
      e = .returned (.tuple #[tokV t,.bool true]) ∧ Two w0 w' b1 s1 e1 (k1 + 1) b2 s2 e2 k2 ∧ Below w0.heap.size w w':=by
  obtain ⟨O1,O2,h1,h2,h3,h4,h5,h6,h7,h8⟩:=h
  have hk:=(List.getElem?_eq_some_iff.1 ht).1
  refine (lxs_next O1 b1 k1 s1 e1 t w h1 ht).mono ?_
  rintro e w' ⟨rfl,g1,g3⟩
  exact ⟨rfl,Two.step h2 h3 h4 h5 h6 h8 (g1.mono up_of) (by omega) g3⟩
theorem two_last (h:Two w0 w b1 s1 e1 k1 b2 s2 e2 k2) (hk:(refO s1 e1).toks.length ≤ k1) :
    Calls Tryz.prog 15 #[.pointer (some ⟨b1,0,none⟩)] w fun e w'=>e = .returned (.tuple #[.nilIface,.bool false]) ∧ w = w':=by
  obtain ⟨O1,O2,h1,h2,h3,h4,h5,h6,h7,h8⟩:=h
  exact lxs_last O1 b1 k1 s1 e1 w h1 hk
theorem one_new (hs:w0.heap.size ≤ w.heap.size):Calls Tryz.prog 23 #[] w fun e w'=>e = .returned (.pointer (some ⟨w.heap.size,0,none⟩)) ∧ One w0 w' w.heap.size [] false 0 ∧ Below w.heap.size w w':=by
  refine (lxs_new w).mono ?_
  rintro e w' ⟨rfl,g1,g2⟩
  have hz:=g2.size
  refine ⟨rfl,⟨fun j=>j = w.heap.size ∧ j < w'.heap.size,g1.cut,fun j hj=>⟨by rw [hj.1];exact hs,hj.2⟩,by omega,Nat.zero_le _⟩,g2⟩
theorem two_new (h:One w0 w b s en k):Calls Tryz.prog 23 #[] w fun e w'=>e = .returned (.pointer (some ⟨w.heap.size,0,none⟩)) ∧ Two w0 w' b s en k w.heap.size [] false 0 ∧ Below w.heap.size w w':=by
  obtain ⟨O,h1,h2,h3,h4⟩:=h
  refine (lxs_new w).mono ?_
  rintro e w' ⟨rfl,g1,g2⟩
  have hz:=g2.size
  exact ⟨rfl,⟨O,fun j=>j = w.heap.size ∧ j < w'.heap.size,h1.below g2,g1.cut,fun j hj=>by have:=h2 j hj;omega,fun j hj=>⟨by rw [hj.1];exact h3,hj.2⟩,fun j a b=>by have:=h2 j a;omega,by omega,h4,Nat.zero_le _⟩,g2⟩
def OneF (w0:World) (F:Nat → Prop) (w:World) (b:Nat) (s:List UInt8) (en:Bool) (k:Nat):Prop :=
  ∃ O:Nat → Prop,LxS O w b s en k ∧ (∀ j,O j → w0.heap.size ≤ j ∧ j < w.heap.size ∧ ¬ F j) ∧ w0.heap.size ≤ w.heap.size ∧ k ≤ (refO s en).toks.length ∧ (∀ j,F j → j < w.heap.size)
theorem One.forbid (h:One w0 w b s en k):OneF w0 (fun _=>False) w b s en k:=by
  obtain ⟨O,h1,h2,h3,h4⟩:=h
  exact ⟨O,h1,fun j hj=>by have:=h2 j hj;exact ⟨this.1,this.2,fun h=>h⟩,h3,h4,fun j hj=>hj.elim⟩
theorem OneF.one {F:Nat → Prop} (h:OneF w0 F w b s en k):One w0 w b s en k:=by
  obtain ⟨O,h1,h2,h3,h4,_⟩:=h
  exact ⟨O,h1,fun j hj=>⟨(h2 j hj).1,(h2 j hj).2.1⟩,h3,h4⟩
theorem OneF.more {F F':Nat → Prop} (h:OneF w0 F w b s en k) (hb:Below w.heap.size w w') (hF:∀ j,F' j → F j ∨ (w.heap.size ≤ j ∧ j < w'.heap.size)):OneF w0 F' w' b s en k:=by
  obtain ⟨O,h1,h2,h3,h4,h5⟩:=h
  have hs:=hb.size
  refine ⟨O,h1.below hb,fun j hj=>?_,by omega,h4,fun j hj=>?_⟩
  · obtain ⟨a,b,c⟩:=h2 j hj
    refine ⟨a,by omega,fun hf=>?_⟩
    rcases hF j hf with hf | hf
    · exact c hf
    · omega
  · rcases hF j hj with hf | hf
    · have:=h5 j hf;omega
    · exact hf.2
theorem OneF.below {F:Nat → Prop} (h:OneF w0 F w b s en k) (hb:Below w.heap.size w w'):OneF w0 F w' b s en k:=h.more hb (fun j hj=>.inl hj)
theorem OneF.wrote {F:Nat → Prop} (h:OneF w0 F w b s en k) (hf:Fr F w w'):OneF w0 F w' b s en k:=by
  obtain ⟨O,h1,h2,h3,h4,h5⟩:=h
  have hs:=hf.size
  exact ⟨O,h1.apart hf (fun j _ hj e=>(h2 j hj).2.2 e),fun j hj=>by have:=h2 j hj;exact ⟨this.1,by omega,this.2.2⟩,by omega,h4,fun j hj=>by have:=h5 j hj;omega⟩
theorem OneF.step {F O:Nat → Prop} {s':List UInt8} {e':Bool} {k':Nat} (h3:∀ j,O j → w0.heap.size ≤ j ∧ j < w.heap.size ∧ ¬ F j) (h6:w0.heap.size ≤ w.heap.size) (h7:∀ j,F j → j < w.heap.size)
    (g1:LxS (up O w) w' b s' e' k') (g2:k' ≤ (refO s' e').toks.length) (g3:Fr O w w'):OneF w0 F w' b s' e' k' ∧ Below w0.heap.size w w' ∧ ∀ j,F j → w'.heap[j]? = w.heap[j]?:=by
  have hs:=g3.size
  refine ⟨⟨fun j=>up O w j ∧ j < w'.heap.size,g1.cut,fun j hj=>?_,by omega,g2,fun j hj=>by have:=h7 j hj;omega⟩,g3.above h6 (fun j hj=>(h3 j hj).1),fun j hj=>g3.block j (h7 j hj) (fun ho=>(h3 j ho).2.2 hj)⟩
  rcases hj with ⟨hj | hj,hl⟩
  · exact ⟨(h3 j hj).1,hl,(h3 j hj).2.2⟩
  · exact ⟨by omega,hl,fun hf=>by have:=h7 j hf;omega⟩
theorem one_feed {F:Nat → Prop} {g:Nat} (h:OneF w0 F w b s false k) (hg:F g) (n c B:Nat) (bs:List UInt8) (hr:RB w B (some ⟨g,0,none⟩) n bs) (hB:B ≤ w.heap.size) (hn:n ≤ 1000000000000) :
    Calls Tryz.prog 17 #[.pointer (some ⟨b,0,none⟩),.slice (some ⟨g,0,none⟩) n c] w fun e w' =>
      e = .returned (errV (refO (s ++ bs) false).no (refO (s ++ bs) false).pos) ∧ OneF w0 F w' b (s ++ bs) false k ∧ Below w0.heap.size w w' ∧ ∀ j,F j → w'.heap[j]? = w.heap[j]?:=by
  obtain ⟨O1,h1,h3,h6,h7,h8⟩:=h
  refine (lxs_feed O1 b k s _ n c B bs w h1 h7 hr hB (fun g' o hA hp ho=>by injection hA with hA;injection hA with hA _;subst hA;exact (h3 _ ho).2.2 hg) hn).mono ?_
  rintro e w' ⟨rfl,g1,g2,g3⟩
  exact ⟨rfl,OneF.step h3 h6 h8 g1 g2 g3⟩
theorem onef_end {F:Nat → Prop} (h:OneF w0 F w b s false k) :
    Calls Tryz.prog 18 #[.pointer (some ⟨b,0,none⟩)] w fun e w' =>
      e = .returned (errV (refO s true).no (refO s true).pos) ∧ OneF w0 F w' b s true k ∧ Below w0.heap.size w w' ∧ ∀ j,F j → w'.heap[j]? = w.heap[j]?:=by
  obtain ⟨O1,h1,h3,h6,h7,h8⟩:=h
  refine (lxs_end O1 b k s w h1 h7).mono ?_
  rintro e w' ⟨rfl,g1,g2,g3⟩
  exact ⟨rfl,OneF.step h3 h6 h8 g1 g2 g3⟩
theorem onef_next {F:Nat → Prop} (h:OneF w0 F w b s en k) (t:Tok) (ht:(refO s en).toks[k]? = some t) :
    Calls Tryz.prog 15 #[.pointer (some ⟨b,0,none⟩)] w fun e w' =>
      e = .returned (.tuple #[tokV t,.bool true]) ∧ OneF w0 F w' b s en (k + 1) ∧ Below w0.heap.size w w' ∧ ∀ j,F j → w'.heap[j]? = w.heap[j]?:=by
  obtain ⟨O1,h1,h3,h6,h7,h8⟩:=h
  have hk:=(List.getElem?_eq_some_iff.1 ht).1
  refine (lxs_next O1 b k s en t w h1 ht).mono ?_
  rintro e w' ⟨rfl,g1,g3⟩
  exact ⟨rfl,OneF.step h3 h6 h8 (g1.mono up_of) (by omega) g3⟩
theorem one_feed_err (h:One w0 w b s en k) (A:Option Addr) (n c:Nat) (h0:(refO s en).no ≠ 0) :
    Calls Tryz.prog 17 #[.pointer (some ⟨b,0,none⟩),.slice A n c] w fun e w'=>e = .returned (errV (refO s en).no (refO s en).pos) ∧ w = w':=by
  obtain ⟨O,h1,_⟩:=h
  exact lxs_feed_err O b k s en A n c w h1 h0
theorem one_end_err (h:One w0 w b s en k) (h0:(refO s en).no ≠ 0) :
    Calls Tryz.prog 18 #[.pointer (some ⟨b,0,none⟩)] w fun e w'=>e = .returned (errV (refO s en).no (refO s en).pos) ∧ w = w':=by
  obtain ⟨O,h1,_⟩:=h
  exact lxs_end_err O b k s en w h1 h0
theorem one_feed_done (h:One w0 w b s true k) (A:Option Addr) (n c:Nat) (h0:(refO s true).no = 0) :
    Calls Tryz.prog 17 #[.pointer (some ⟨b,0,none⟩),.slice A n c] w fun e w'=>e = .returned (.iface 30 (.int .i64 96)) ∧ w = w':=by
  obtain ⟨O,h1,_⟩:=h
  exact lxs_feed_done O b k s A n c w h1 h0
theorem one_end_done (h:One w0 w b s true k) (h0:(refO s true).no = 0) :
    Calls Tryz.prog 18 #[.pointer (some ⟨b,0,none⟩)] w fun e w'=>e = .returned (.iface 30 (.int .i64 96)) ∧ w = w':=by
  obtain ⟨O,h1,_⟩:=h
  exact lxs_end_done O b k s w h1 h0
theorem one_place (h:One w0 w b s en k) (P:Nat) (hP:(if (refO s en).no = 0 then s.length else (refO s en).found) = P) :
    Calls Tryz.prog 19 #[.pointer (some ⟨b,0,none⟩)] w fun e w'=>e = .returned (.int .i64 (P:Nat)) ∧ w = w':=by
  obtain ⟨O,h1,_⟩:=h
  exact lxs_place O b k s en w h1 P hP
theorem one_held (h:One w0 w b s en k) (H:Nat) (hH:(refO s en).held = H) :
    Calls Tryz.prog 20 #[.pointer (some ⟨b,0,none⟩)] w fun e w'=>e = .returned (.int .i64 (H:Nat)) ∧ Below w.heap.size w w':=by
  obtain ⟨O,h1,_⟩:=h
  exact lxs_held O b k s en w h1 H hH
theorem one_last (h:One w0 w b s en k) (hk:(refO s en).toks.length ≤ k) :
    Calls Tryz.prog 15 #[.pointer (some ⟨b,0,none⟩)] w fun e w'=>e = .returned (.tuple #[.nilIface,.bool false]) ∧ w = w':=by
  obtain ⟨O1,h1,h3,h6,h7⟩:=h
  exact lxs_last O1 b k s en w h1 hk
end
end Go.Proofs.YtgmholdkdppbmaaGreatDoor.Lx

namespace Go.Proofs.YtgmholdkdppbmaaGreatDoor.Lx
open Go.RowKit
attribute [local go_sem] SGives_value SGives_skip SGives_enter
theorem call_f64bits (n:Nat) (w:World) :
    (callFunc 56 #[.float .f64 n]).run Tryz.prog w = .ok (.value (.int .u64 (n:Int))) w:=by
  rw [run_callFunc_extern Tryz.func56 (by kernel_rfl) (by kernel_rfl) (by kernel_rfl) (e:=Extern.MathFloatBits.float64bits) (by kernel_rfl)]
  kernel_rfl
theorem call_f64from (n:Nat) (w:World) :
    (callFunc 182 #[.int .u64 (n:Int)]).run Tryz.prog w = .ok (.value (.float .f64 n)) w:=by
  rw [run_callFunc_extern Tryz.func182 (by kernel_rfl) (by kernel_rfl) (by kernel_rfl) (e:=Extern.MathFloatBits.float64frombits) (by kernel_rfl)]
  kernel_rfl
theorem sort_num (b:Nat) (w:World):Calls Tryz.prog 192 #[.float .f64 b] w fun e w'=>e = .returned (.int .i64 3) ∧ Below w.heap.size w w':=by
  go_enter Tryz.func192,Tryz.ntmps192
  go_wp2
  go_ret
  exact ⟨rfl,by first | exact Below.refl _ _ | exact (Below.refl _ _).alloc (Nat.le_refl _) _⟩
theorem ms_num (b:Nat) (w:World):(method 391 121 (.float .f64 b) "Sort").run Tryz.prog w = .ok (192,.float .f64 b) w:=by kernel_rfl
theorem tv_num (b:Nat) (w:World):(Instr.typeAssert (.iface 121 (.float .f64 b)) 48 121 true).run Tryz.prog w = .ok (.tuple #[.float .f64 b,.bool true]) w:=by kernel_rfl
theorem sort_str (l:List UInt8) (w:World):Calls Tryz.prog 194 #[.string ⟨l.toArray⟩] w fun e w'=>e = .returned (.int .i64 4) ∧ Below w.heap.size w w':=by
  go_enter Tryz.func194,Tryz.ntmps194
  go_wp2
  go_ret
  exact ⟨rfl,by first | exact Below.refl _ _ | exact (Below.refl _ _).alloc (Nat.le_refl _) _⟩
theorem ms_str (l:List UInt8) (w:World):(method 391 126 (.string ⟨l.toArray⟩) "Sort").run Tryz.prog w = .ok (194,.string ⟨l.toArray⟩) w:=by kernel_rfl
theorem tv_str (l:List UInt8) (w:World):(Instr.typeAssert (.iface 126 (.string ⟨l.toArray⟩)) 48 126 true).run Tryz.prog w = .ok (.tuple #[.string ⟨l.toArray⟩,.bool true]) w:=by kernel_rfl
theorem sort_null  (w:World):Calls Tryz.prog 188 #[.agg #[]] w fun e w'=>e = .returned (.int .i64 1) ∧ Below w.heap.size w w':=by
  go_enter Tryz.func188,Tryz.ntmps188
  go_wp2
  go_ret
  exact ⟨rfl,by first | exact Below.refl _ _ | exact (Below.refl _ _).alloc (Nat.le_refl _) _⟩
theorem ms_null  (w:World):(method 391 97 (.agg #[]) "Sort").run Tryz.prog w = .ok (188,.agg #[]) w:=by kernel_rfl
theorem tv_null  (w:World):(Instr.typeAssert (.iface 97 (.agg #[])) 48 97 true).run Tryz.prog w = .ok (.tuple #[.agg #[],.bool true]) w:=by kernel_rfl
theorem sort_flag (y:Bool) (w:World):Calls Tryz.prog 190 #[.bool y] w fun e w'=>e = .returned (.int .i64 2) ∧ Below w.heap.size w w':=by
  go_enter Tryz.func190,Tryz.ntmps190
  go_wp2
  go_ret
  exact ⟨rfl,by first | exact Below.refl _ _ | exact (Below.refl _ _).alloc (Nat.le_refl _) _⟩
theorem ms_flag (y:Bool) (w:World):(method 391 98 (.bool y) "Sort").run Tryz.prog w = .ok (190,.bool y) w:=by kernel_rfl
theorem tv_flag (y:Bool) (w:World):(Instr.typeAssert (.iface 98 (.bool y)) 48 98 true).run Tryz.prog w = .ok (.tuple #[.bool y,.bool true]) w:=by kernel_rfl
set_option maxRecDepth 100000 in
theorem value_num (p q:Nat) (b:Nat) (w:World) :
    Calls Tryz.prog 38 #[.iface 121 (.float .f64 b),.agg #[.int .i64 3,.int .i64 (p:Nat),.int .i64 (q:Nat),.string ⟨#[]⟩,.int .u64 (b:Nat)]] w fun e w'=>e = .returned (.bool true) ∧ Below w.heap.size w w':=by
  have ta:=tv_num b
  have ms:=ms_num b
  have cb:=call_f64bits b
  have hbb:((b:Int) == (b:Int)) = true:=by simp
  have hb0:=Blk.new w 60 #[.int .i64 3,.int .i64 (p:Nat),.int .i64 (q:Nat),.string ⟨#[]⟩,.int .u64 (b:Nat)]
  go_enter Tryz.func38,Tryz.ntmps38
  go_wp2_with fail
  obtain ⟨S,SD⟩:∃ S:World → Prop,Go.RowKit.Hid (∀ w':World,S w' ↔ (Blk w' w.heap.size 60 #[.int .i64 3,.int .i64 (p:Nat),.int .i64 (q:Nat),.string ⟨#[]⟩,.int .u64 (b:Nat)] ∧ Below w.heap.size w w')):=⟨_,Lib.hid (fun _=>Iff.rfl)⟩
  refine wp_region_sure (S:=S) (by kernel_rfl) (by kernel_rfl) ((SD.out _).2 (⟨hb0.drew,((Below.refl _ _).alloc (Nat.le_refl _) _).drew⟩)) ?_
  repeat
    (first
      | (refine SureL.no (by rfl) ?_;simp only [Act.put,List.setIfInBounds_toArray,List.set_cons_zero,List.set_cons_succ])
      | (refine' SureL.yes (by rfl) (fun wS hS=>?_) ?_
         rotate_left
         · have hS':=(SD.out _).1 hS
           obtain ⟨hk,hB⟩:=hS'
           have c0:=hk.cell 0
           have c3:=hk.cell 3
           have c4:=hk.cell 4
           simp at c0 c3 c4
           go_simp
           first
             | exact ⟨rfl,hS⟩
             | (go_at_call 192;refine (sort_num _ _).mono ?_;rintro e w' ⟨rfl,hb⟩;exact ⟨rfl,(SD.out _).2 ⟨hk.below hb hk.lt,keepb hB hb⟩⟩)
         simp only [Act.put,List.setIfInBounds_toArray,List.set_cons_zero,List.set_cons_succ]))
  refine SureL.nil ?_
  intro wE hE
  obtain ⟨hk,hB⟩:=(SD.out _).1 hE
  clear hE SD
  go_wp2
  go_ret
  exact ⟨rfl,hB⟩
set_option maxRecDepth 100000 in
theorem value_str (p q:Nat) (l:List UInt8) (w:World) :
    Calls Tryz.prog 38 #[.iface 126 (.string ⟨l.toArray⟩),.agg #[.int .i64 4,.int .i64 (p:Nat),.int .i64 (q:Nat),.string ⟨l.toArray⟩,.int .u64 0]] w fun e w'=>e = .returned (.bool true) ∧ Below w.heap.size w w':=by
  have ta:=tv_str l
  have ms:=ms_str l
  have hb0:=Blk.new w 60 #[.int .i64 4,.int .i64 (p:Nat),.int .i64 (q:Nat),.string ⟨l.toArray⟩,.int .u64 0]
  go_enter Tryz.func38,Tryz.ntmps38
  go_wp2_with fail
  refine (sort_str _ _).mono ?_
  rintro e w1 ⟨rfl,hb1⟩
  go_wp2_with fail
  go_ret
  exact ⟨rfl,keepb ((Below.refl _ _).alloc (Nat.le_refl _) _) hb1⟩
set_option maxRecDepth 100000 in
theorem value_null (p q:Nat) (w:World) :
    Calls Tryz.prog 38 #[.iface 97 (.agg #[]),.agg #[.int .i64 2,.int .i64 (p:Nat),.int .i64 (q:Nat),.string ⟨#[110,117,108,108]⟩,.int .u64 0]] w fun e w'=>e = .returned (.bool true) ∧ Below w.heap.size w w':=by
  have ta:=tv_null
  have ms:=ms_null
  have hb0:=Blk.new w 60 #[.int .i64 2,.int .i64 (p:Nat),.int .i64 (q:Nat),.string ⟨#[110,117,108,108]⟩,.int .u64 0]
  go_enter Tryz.func38,Tryz.ntmps38
  go_wp2_with fail
  refine (sort_null _).mono ?_
  rintro e w1 ⟨rfl,hb1⟩
  go_wp2_with fail
  go_ret
  exact ⟨rfl,keepb (((Below.refl _ _).alloc (Nat.le_refl _) _).alloc (by simp) _) hb1⟩
set_option maxRecDepth 100000 in
theorem value_true (p q:Nat) (w:World) :
    Calls Tryz.prog 38 #[.iface 98 (.bool true),.agg #[.int .i64 2,.int .i64 (p:Nat),.int .i64 (q:Nat),.string ⟨#[116,114,117,101]⟩,.int .u64 0]] w fun e w'=>e = .returned (.bool true) ∧ Below w.heap.size w w':=by
  have ta:=tv_flag true
  have ms:=ms_flag true
  have hb0:=Blk.new w 60 #[.int .i64 2,.int .i64 (p:Nat),.int .i64 (q:Nat),.string ⟨#[116,114,117,101]⟩,.int .u64 0]
  go_enter Tryz.func38,Tryz.ntmps38
  go_wp2_with fail
  refine (sort_flag true _).mono ?_
  rintro e w1 ⟨rfl,hb1⟩
  go_wp2_with fail
  go_ret
  exact ⟨rfl,keepb ((Below.refl _ _).alloc (Nat.le_refl _) _) hb1⟩
set_option maxRecDepth 100000 in
theorem value_false (p q:Nat) (w:World) :
    Calls Tryz.prog 38 #[.iface 98 (.bool false),.agg #[.int .i64 2,.int .i64 (p:Nat),.int .i64 (q:Nat),.string ⟨#[102,97,108,115,101]⟩,.int .u64 0]] w fun e w'=>e = .returned (.bool true) ∧ Below w.heap.size w w':=by
  have ta:=tv_flag false
  have ms:=ms_flag false
  have hb0:=Blk.new w 60 #[.int .i64 2,.int .i64 (p:Nat),.int .i64 (q:Nat),.string ⟨#[102,97,108,115,101]⟩,.int .u64 0]
  go_enter Tryz.func38,Tryz.ntmps38
  go_wp2_with fail
  refine (sort_flag false _).mono ?_
  rintro e w1 ⟨rfl,hb1⟩
  go_wp2_with fail
  go_ret
  exact ⟨rfl,keepb ((Below.refl _ _).alloc (Nat.le_refl _) _) hb1⟩
end Go.Proofs.YtgmholdkdppbmaaGreatDoor.Lx

namespace Go.Proofs.YtgmholdkdppbmaaGreatDoor.Lx
open Go.RowKit Go.Extern.Stop Go.Stop Go.Extern Go.Lib
attribute [local go_sem] SGives_value SGives_skip SGives_enter
theorem span_place (p q:Nat) (w:World):Calls Tryz.prog 179 #[.agg #[.int .i64 (p:Nat),.int .i64 (q:Nat)]] w fun e w'=>e = .returned (.int .i64 (p:Nat)) ∧ Below w.heap.size w w':=by
  go_enter Tryz.func179,Tryz.ntmps179
  go_wp2
  go_ret
  exact ⟨rfl,(Below.refl _ _).alloc (Nat.le_refl _) _⟩
theorem span_width (p q:Nat) (w:World):Calls Tryz.prog 22 #[.agg #[.int .i64 (p:Nat),.int .i64 (q:Nat)]] w fun e w'=>e = .returned (.int .i64 (q:Nat)) ∧ Below w.heap.size w w':=by
  go_enter Tryz.func22,Tryz.ntmps22
  go_wp2
  go_ret
  exact ⟨rfl,(Below.refl _ _).alloc (Nat.le_refl _) _⟩
theorem ts_Mark_Mark (p q:Nat) (c:UInt8) (w:World):(Instr.typeAssert (.iface 83 (.agg #[.int .i64 (p:Nat),.int .i64 (q:Nat),.int .u8 (c.toNat:Int)])) 35 83 true).run Tryz.prog w = .ok (.tuple #[.agg #[.int .i64 (p:Nat),.int .i64 (q:Nat),.int .u8 (c.toNat:Int)],.bool true]) w:=by kernel_rfl
theorem ts_Mark_Term (p q:Nat) (c:UInt8) (w:World):(Instr.typeAssert (.iface 83 (.agg #[.int .i64 (p:Nat),.int .i64 (q:Nat),.int .u8 (c.toNat:Int)])) 35 52 true).run Tryz.prog w = .ok (.tuple #[.agg #[.int .i64 0,.int .i64 0,.string ⟨#[]⟩],.bool false]) w:=by kernel_rfl
theorem ts_Mark_Num (p q:Nat) (c:UInt8) (w:World):(Instr.typeAssert (.iface 83 (.agg #[.int .i64 (p:Nat),.int .i64 (q:Nat),.int .u8 (c.toNat:Int)])) 35 87 true).run Tryz.prog w = .ok (.tuple #[.agg #[.int .i64 0,.int .i64 0,.int .u64 0],.bool false]) w:=by kernel_rfl
theorem ts_Mark_Str (p q:Nat) (c:UInt8) (w:World):(Instr.typeAssert (.iface 83 (.agg #[.int .i64 (p:Nat),.int .i64 (q:Nat),.int .u8 (c.toNat:Int)])) 35 90 true).run Tryz.prog w = .ok (.tuple #[.agg #[.int .i64 0,.int .i64 0,.string ⟨#[]⟩],.bool false]) w:=by kernel_rfl
theorem ts_Mark_Leaf (p q:Nat) (c:UInt8) (w:World):(Instr.typeAssert (.iface 83 (.agg #[.int .i64 (p:Nat),.int .i64 (q:Nat),.int .u8 (c.toNat:Int)])) 35 72 true).run Tryz.prog w = .ok (.tuple #[.nilIface,.bool false]) w:=run_typeAssert_lacksB Tryz.underlying72 (by kernel_rfl) (by kernel_rfl) _ _ w
theorem mt_Mark_Place (p q:Nat) (c:UInt8) (w:World):(method 391 83 (.agg #[.int .i64 (p:Nat),.int .i64 (q:Nat),.int .u8 (c.toNat:Int)]) "Place").run Tryz.prog w = .ok (179,.agg #[.int .i64 (p:Nat),.int .i64 (q:Nat)]) w:=by kernel_rfl
theorem mt_Mark_Width (p q:Nat) (c:UInt8) (w:World):(method 391 83 (.agg #[.int .i64 (p:Nat),.int .i64 (q:Nat),.int .u8 (c.toNat:Int)]) "Width").run Tryz.prog w = .ok (22,.agg #[.int .i64 (p:Nat),.int .i64 (q:Nat)]) w:=by kernel_rfl
theorem ts_Term_Mark (p q:Nat) (l:List UInt8) (w:World):(Instr.typeAssert (.iface 52 (.agg #[.int .i64 (p:Nat),.int .i64 (q:Nat),.string ⟨l.toArray⟩])) 35 83 true).run Tryz.prog w = .ok (.tuple #[.agg #[.int .i64 0,.int .i64 0,.int .u8 0],.bool false]) w:=by kernel_rfl
theorem ts_Term_Term (p q:Nat) (l:List UInt8) (w:World):(Instr.typeAssert (.iface 52 (.agg #[.int .i64 (p:Nat),.int .i64 (q:Nat),.string ⟨l.toArray⟩])) 35 52 true).run Tryz.prog w = .ok (.tuple #[.agg #[.int .i64 (p:Nat),.int .i64 (q:Nat),.string ⟨l.toArray⟩],.bool true]) w:=by kernel_rfl
theorem ts_Term_Num (p q:Nat) (l:List UInt8) (w:World):(Instr.typeAssert (.iface 52 (.agg #[.int .i64 (p:Nat),.int .i64 (q:Nat),.string ⟨l.toArray⟩])) 35 87 true).run Tryz.prog w = .ok (.tuple #[.agg #[.int .i64 0,.int .i64 0,.int .u64 0],.bool false]) w:=by kernel_rfl
theorem ts_Term_Str (p q:Nat) (l:List UInt8) (w:World):(Instr.typeAssert (.iface 52 (.agg #[.int .i64 (p:Nat),.int .i64 (q:Nat),.string ⟨l.toArray⟩])) 35 90 true).run Tryz.prog w = .ok (.tuple #[.agg #[.int .i64 0,.int .i64 0,.string ⟨#[]⟩],.bool false]) w:=by kernel_rfl
theorem ts_Term_Leaf (p q:Nat) (l:List UInt8) (w:World):(Instr.typeAssert (.iface 52 (.agg #[.int .i64 (p:Nat),.int .i64 (q:Nat),.string ⟨l.toArray⟩])) 35 72 true).run Tryz.prog w = .ok (.tuple #[.iface 52 (.agg #[.int .i64 (p:Nat),.int .i64 (q:Nat),.string ⟨l.toArray⟩]),.bool true]) w:=by kernel_rfl
theorem mt_Term_Place (p q:Nat) (l:List UInt8) (w:World):(method 391 52 (.agg #[.int .i64 (p:Nat),.int .i64 (q:Nat),.string ⟨l.toArray⟩]) "Place").run Tryz.prog w = .ok (179,.agg #[.int .i64 (p:Nat),.int .i64 (q:Nat)]) w:=by kernel_rfl
theorem mt_Term_Width (p q:Nat) (l:List UInt8) (w:World):(method 391 52 (.agg #[.int .i64 (p:Nat),.int .i64 (q:Nat),.string ⟨l.toArray⟩]) "Width").run Tryz.prog w = .ok (22,.agg #[.int .i64 (p:Nat),.int .i64 (q:Nat)]) w:=by kernel_rfl
theorem mt_Term_Value (p q:Nat) (l:List UInt8) (w:World):(method 391 52 (.agg #[.int .i64 (p:Nat),.int .i64 (q:Nat),.string ⟨l.toArray⟩]) "Value").run Tryz.prog w = .ok (21,.agg #[.int .i64 (p:Nat),.int .i64 (q:Nat),.string ⟨l.toArray⟩]) w:=by kernel_rfl
theorem ts_Num_Mark (p q:Nat) (b:Nat) (w:World):(Instr.typeAssert (.iface 87 (.agg #[.int .i64 (p:Nat),.int .i64 (q:Nat),.int .u64 (b:Nat)])) 35 83 true).run Tryz.prog w = .ok (.tuple #[.agg #[.int .i64 0,.int .i64 0,.int .u8 0],.bool false]) w:=by kernel_rfl
theorem ts_Num_Term (p q:Nat) (b:Nat) (w:World):(Instr.typeAssert (.iface 87 (.agg #[.int .i64 (p:Nat),.int .i64 (q:Nat),.int .u64 (b:Nat)])) 35 52 true).run Tryz.prog w = .ok (.tuple #[.agg #[.int .i64 0,.int .i64 0,.string ⟨#[]⟩],.bool false]) w:=by kernel_rfl
theorem ts_Num_Num (p q:Nat) (b:Nat) (w:World):(Instr.typeAssert (.iface 87 (.agg #[.int .i64 (p:Nat),.int .i64 (q:Nat),.int .u64 (b:Nat)])) 35 87 true).run Tryz.prog w = .ok (.tuple #[.agg #[.int .i64 (p:Nat),.int .i64 (q:Nat),.int .u64 (b:Nat)],.bool true]) w:=by kernel_rfl
theorem ts_Num_Str (p q:Nat) (b:Nat) (w:World):(Instr.typeAssert (.iface 87 (.agg #[.int .i64 (p:Nat),.int .i64 (q:Nat),.int .u64 (b:Nat)])) 35 90 true).run Tryz.prog w = .ok (.tuple #[.agg #[.int .i64 0,.int .i64 0,.string ⟨#[]⟩],.bool false]) w:=by kernel_rfl
theorem ts_Num_Leaf (p q:Nat) (b:Nat) (w:World):(Instr.typeAssert (.iface 87 (.agg #[.int .i64 (p:Nat),.int .i64 (q:Nat),.int .u64 (b:Nat)])) 35 72 true).run Tryz.prog w = .ok (.tuple #[.iface 87 (.agg #[.int .i64 (p:Nat),.int .i64 (q:Nat),.int .u64 (b:Nat)]),.bool true]) w:=by kernel_rfl
theorem mt_Num_Place (p q:Nat) (b:Nat) (w:World):(method 391 87 (.agg #[.int .i64 (p:Nat),.int .i64 (q:Nat),.int .u64 (b:Nat)]) "Place").run Tryz.prog w = .ok (179,.agg #[.int .i64 (p:Nat),.int .i64 (q:Nat)]) w:=by kernel_rfl
theorem mt_Num_Width (p q:Nat) (b:Nat) (w:World):(method 391 87 (.agg #[.int .i64 (p:Nat),.int .i64 (q:Nat),.int .u64 (b:Nat)]) "Width").run Tryz.prog w = .ok (22,.agg #[.int .i64 (p:Nat),.int .i64 (q:Nat)]) w:=by kernel_rfl
theorem mt_Num_Value (p q:Nat) (b:Nat) (w:World):(method 391 87 (.agg #[.int .i64 (p:Nat),.int .i64 (q:Nat),.int .u64 (b:Nat)]) "Value").run Tryz.prog w = .ok (181,.agg #[.int .i64 (p:Nat),.int .i64 (q:Nat),.int .u64 (b:Nat)]) w:=by kernel_rfl
theorem ts_Str_Mark (p q:Nat) (l:List UInt8) (w:World):(Instr.typeAssert (.iface 90 (.agg #[.int .i64 (p:Nat),.int .i64 (q:Nat),.string ⟨l.toArray⟩])) 35 83 true).run Tryz.prog w = .ok (.tuple #[.agg #[.int .i64 0,.int .i64 0,.int .u8 0],.bool false]) w:=by kernel_rfl
theorem ts_Str_Term (p q:Nat) (l:List UInt8) (w:World):(Instr.typeAssert (.iface 90 (.agg #[.int .i64 (p:Nat),.int .i64 (q:Nat),.string ⟨l.toArray⟩])) 35 52 true).run Tryz.prog w = .ok (.tuple #[.agg #[.int .i64 0,.int .i64 0,.string ⟨#[]⟩],.bool false]) w:=by kernel_rfl
theorem ts_Str_Num (p q:Nat) (l:List UInt8) (w:World):(Instr.typeAssert (.iface 90 (.agg #[.int .i64 (p:Nat),.int .i64 (q:Nat),.string ⟨l.toArray⟩])) 35 87 true).run Tryz.prog w = .ok (.tuple #[.agg #[.int .i64 0,.int .i64 0,.int .u64 0],.bool false]) w:=by kernel_rfl
theorem ts_Str_Str (p q:Nat) (l:List UInt8) (w:World):(Instr.typeAssert (.iface 90 (.agg #[.int .i64 (p:Nat),.int .i64 (q:Nat),.string ⟨l.toArray⟩])) 35 90 true).run Tryz.prog w = .ok (.tuple #[.agg #[.int .i64 (p:Nat),.int .i64 (q:Nat),.string ⟨l.toArray⟩],.bool true]) w:=by kernel_rfl
theorem ts_Str_Leaf (p q:Nat) (l:List UInt8) (w:World):(Instr.typeAssert (.iface 90 (.agg #[.int .i64 (p:Nat),.int .i64 (q:Nat),.string ⟨l.toArray⟩])) 35 72 true).run Tryz.prog w = .ok (.tuple #[.iface 90 (.agg #[.int .i64 (p:Nat),.int .i64 (q:Nat),.string ⟨l.toArray⟩]),.bool true]) w:=by kernel_rfl
theorem mt_Str_Place (p q:Nat) (l:List UInt8) (w:World):(method 391 90 (.agg #[.int .i64 (p:Nat),.int .i64 (q:Nat),.string ⟨l.toArray⟩]) "Place").run Tryz.prog w = .ok (179,.agg #[.int .i64 (p:Nat),.int .i64 (q:Nat)]) w:=by kernel_rfl
theorem mt_Str_Width (p q:Nat) (l:List UInt8) (w:World):(method 391 90 (.agg #[.int .i64 (p:Nat),.int .i64 (q:Nat),.string ⟨l.toArray⟩]) "Width").run Tryz.prog w = .ok (22,.agg #[.int .i64 (p:Nat),.int .i64 (q:Nat)]) w:=by kernel_rfl
theorem mt_Str_Value (p q:Nat) (l:List UInt8) (w:World):(method 391 90 (.agg #[.int .i64 (p:Nat),.int .i64 (q:Nat),.string ⟨l.toArray⟩]) "Value").run Tryz.prog w = .ok (183,.agg #[.int .i64 (p:Nat),.int .i64 (q:Nat),.string ⟨l.toArray⟩]) w:=by kernel_rfl
theorem val_num (p q b:Nat) (w:World):Calls Tryz.prog 181 #[.agg #[.int .i64 (p:Nat),.int .i64 (q:Nat),.int .u64 (b:Nat)]] w fun e w'=>e = .returned (.iface 121 (.float .f64 b)) ∧ Below w.heap.size w w':=by
  have cf:=call_f64from b
  go_enter Tryz.func181,Tryz.ntmps181
  go_wp2
  go_ret
  exact ⟨rfl,(Below.refl _ _).alloc (Nat.le_refl _) _⟩
theorem val_str (p q:Nat) (l:List UInt8) (w:World):Calls Tryz.prog 183 #[.agg #[.int .i64 (p:Nat),.int .i64 (q:Nat),.string ⟨l.toArray⟩]] w fun e w'=>e = .returned (.iface 126 (.string ⟨l.toArray⟩)) ∧ Below w.heap.size w w':=by
  go_enter Tryz.func183,Tryz.ntmps183
  go_wp2
  go_ret
  exact ⟨rfl,(Below.refl _ _).alloc (Nat.le_refl _) _⟩
theorem val_null (p q:Nat) (w:World):Calls Tryz.prog 21 #[.agg #[.int .i64 (p:Nat),.int .i64 (q:Nat),.string ⟨#[110,117,108,108]⟩]] w fun e w'=>e = .returned (.iface 97 (.agg #[])) ∧ Below w.heap.size w w':=by
  go_enter Tryz.func21,Tryz.ntmps21
  go_wp2
  go_ret
  exact ⟨rfl,by first | exact (Below.refl _ _).alloc (Nat.le_refl _) _ | exact ((Below.refl _ _).alloc (Nat.le_refl _) _).alloc (by simp) _⟩
theorem val_true (p q:Nat) (w:World):Calls Tryz.prog 21 #[.agg #[.int .i64 (p:Nat),.int .i64 (q:Nat),.string ⟨#[116,114,117,101]⟩]] w fun e w'=>e = .returned (.iface 98 (.bool true)) ∧ Below w.heap.size w w':=by
  go_enter Tryz.func21,Tryz.ntmps21
  go_wp2
  go_ret
  exact ⟨rfl,by first | exact (Below.refl _ _).alloc (Nat.le_refl _) _ | exact ((Below.refl _ _).alloc (Nat.le_refl _) _).alloc (by simp) _⟩
theorem val_false (p q:Nat) (w:World):Calls Tryz.prog 21 #[.agg #[.int .i64 (p:Nat),.int .i64 (q:Nat),.string ⟨#[102,97,108,115,101]⟩]] w fun e w'=>e = .returned (.iface 98 (.bool false)) ∧ Below w.heap.size w w':=by
  go_enter Tryz.func21,Tryz.ntmps21
  go_wp2
  go_ret
  exact ⟨rfl,by first | exact (Below.refl _ _).alloc (Nat.le_refl _) _ | exact ((Below.refl _ _).alloc (Nat.le_refl _) _).alloc (by simp) _⟩
end Go.Proofs.YtgmholdkdppbmaaGreatDoor.Lx

namespace Go.Proofs.YtgmholdkdppbmaaGreatDoor.Lx
open Go.RowKit Go.Extern.Stop Go.Stop Go.Extern Go.Lib
attribute [local go_sem] SGives_value SGives_skip SGives_enter
theorem cl2 {w:World} {g:Nat} {t:TypeId} {a b:Value} (h:Blk w g t #[a,b]):w.cell? ⟨g,0,none⟩ = some a ∧ w.cell? ⟨g,1,none⟩ = some b:=⟨by rw [h.cell];rfl,by rw [h.cell];rfl⟩
theorem cl3 {w:World} {g:Nat} {t:TypeId} {a b c:Value} (h:Blk w g t #[a,b,c]):w.cell? ⟨g,0,none⟩ = some a ∧ w.cell? ⟨g,1,none⟩ = some b ∧ w.cell? ⟨g,2,none⟩ = some c:=⟨by rw [h.cell];rfl,by rw [h.cell];rfl,by rw [h.cell];rfl⟩
theorem cl5 {w:World} {g:Nat} {t:TypeId} {a b c d e:Value} (h:Blk w g t #[a,b,c,d,e]):w.cell? ⟨g,0,none⟩ = some a ∧ w.cell? ⟨g,1,none⟩ = some b ∧ w.cell? ⟨g,2,none⟩ = some c ∧ w.cell? ⟨g,3,none⟩ = some d ∧ w.cell? ⟨g,4,none⟩ = some e :=
  ⟨by rw [h.cell];rfl,by rw [h.cell];rfl,by rw [h.cell];rfl,by rw [h.cell];rfl,by rw [h.cell];rfl⟩
set_option maxRecDepth 100000 in
set_option maxHeartbeats 4000000 in
theorem same_mark (p q:Nat) (c:UInt8) (w:World) :
    Calls Tryz.prog 25 #[.iface 83 (.agg #[.int .i64 (p:Nat),.int .i64 (q:Nat),.int .u8 (c.toNat:Int)]),.agg #[.int .i64 1,.int .i64 (p:Nat),.int .i64 (q:Nat),.string ⟨#[c]⟩,.int .u64 0]] w fun e w'=>e = .returned (.bool true) ∧ Below w.heap.size w w':=by
  have taMark:=ts_Mark_Mark p q c
  have taTerm:=ts_Mark_Term p q c
  have taNum:=ts_Mark_Num p q c
  have taStr:=ts_Mark_Str p q c
  have taLeaf:=ts_Mark_Leaf p q c
  have mtPlace:=mt_Mark_Place p q c
  have mtWidth:=mt_Mark_Width p q c
  have hcx:((⟨#[c]⟩:ByteArray)[0]'(by show 0 < 1;decide)) = c:=rfl
  have hb0:=Blk.new w 60 #[.int .i64 1,.int .i64 (p:Nat),.int .i64 (q:Nat),.string ⟨#[c]⟩,.int .u64 0]
  go_enter Tryz.func25,Tryz.ntmps25
  go_wp2_with fail
  obtain ⟨S,SD⟩:∃ S:World → Prop,Go.RowKit.Hid (∀ w':World,S w' ↔ (Blk w' w.heap.size 60 #[.int .i64 1,.int .i64 (p:Nat),.int .i64 (q:Nat),.string ⟨#[c]⟩,.int .u64 0] ∧ Below w.heap.size w w')):=⟨_,Lib.hid (fun _=>Iff.rfl)⟩
  refine wp_region_sure (S:=S) (by kernel_rfl) (by kernel_rfl) ((SD.out _).2 (⟨hb0.drew,((Below.refl _ _).alloc (Nat.le_refl _) _).drew⟩)) ?_
  repeat
    (first
      | (refine SureL.no (by rfl) ?_;simp only [Act.put,List.setIfInBounds_toArray,List.set_cons_zero,List.set_cons_succ])
      | (refine' SureL.yes (by rfl) (fun wS hS=>?_) ?_
         rotate_left
         · have hS':=(SD.out _).1 hS
           obtain ⟨hk,hB⟩:=hS'
           have c0:=hk.cell 0
           have c1:=hk.cell 1
           have c2:=hk.cell 2
           have c3:=hk.cell 3
           have c4:=hk.cell 4
           simp at c0 c1 c2 c3 c4
           go_simp
           first
             | exact ⟨rfl,hS⟩
             | (go_at_call 179;refine (span_place _ _ _).mono ?_;rintro e w' ⟨rfl,hb⟩;exact ⟨rfl,(SD.out _).2 ⟨hk.below hb hk.lt,keepb hB hb⟩⟩)
             | (go_at_call 22;refine (span_width _ _ _).mono ?_;rintro e w' ⟨rfl,hb⟩;exact ⟨rfl,(SD.out _).2 ⟨hk.below hb hk.lt,keepb hB hb⟩⟩)
         simp only [Act.put,List.setIfInBounds_toArray,List.set_cons_zero,List.set_cons_succ]))
  refine SureL.nil ?_
  intro wE hE
  obtain ⟨hk,hB⟩:=(SD.out _).1 hE
  clear hE SD
  have c0:=hk.cell 0
  have c1:=hk.cell 1
  have c2:=hk.cell 2
  have c3:=hk.cell 3
  have c4:=hk.cell 4
  simp at c0 c1 c2 c3 c4
  have hk5:=(((((hk.alloc (.cells #[.int .i64 (p:Nat),.int .i64 (q:Nat)] 50)).alloc (.cells #[.int .i64 (p:Nat),.int .i64 (q:Nat),.int .u8 (c.toNat:Int)] 83)).alloc (.cells #[.int .i64 0,.int .i64 0,.string ⟨#[]⟩] 52)).alloc (.cells #[.int .i64 0,.int .i64 0,.int .u64 0] 87)).alloc (.cells #[.int .i64 0,.int .i64 0,.string ⟨#[]⟩] 90))
  have hs5:=(((((Blk.new wE 50 #[.int .i64 (p:Nat),.int .i64 (q:Nat)]).alloc (.cells #[.int .i64 (p:Nat),.int .i64 (q:Nat),.int .u8 (c.toNat:Int)] 83)).alloc (.cells #[.int .i64 0,.int .i64 0,.string ⟨#[]⟩] 52)).alloc (.cells #[.int .i64 0,.int .i64 0,.int .u64 0] 87)).alloc (.cells #[.int .i64 0,.int .i64 0,.string ⟨#[]⟩] 90))
  have ht5:=((((Blk.new (wE.alloc (.cells #[.int .i64 (p:Nat),.int .i64 (q:Nat)] 50)) 83 #[.int .i64 (p:Nat),.int .i64 (q:Nat),.int .u8 (c.toNat:Int)]).alloc (.cells #[.int .i64 0,.int .i64 0,.string ⟨#[]⟩] 52)).alloc (.cells #[.int .i64 0,.int .i64 0,.int .u64 0] 87)).alloc (.cells #[.int .i64 0,.int .i64 0,.string ⟨#[]⟩] 90))
  simp only [World.size_alloc] at ht5
  obtain ⟨x0,x1,x2,x3,x4⟩:=cl5 hk5
  obtain ⟨y0,y1⟩:=cl2 hs5
  obtain ⟨z0,z1,z2⟩:=cl3 ht5
  go_wp2_with fail
  clear x0 x1 x2 x3 x4 y0 y1 z0 z1 z2 c0 c1 c2 c3 c4
  obtain ⟨S,SE⟩:∃ S:World → Prop,Go.RowKit.Hid (∀ w':World,S w' ↔ (Blk w' w.heap.size 60 #[.int .i64 1,.int .i64 (p:Nat),.int .i64 (q:Nat),.string ⟨#[c]⟩,.int .u64 0] ∧ Blk w' wE.heap.size 50 #[.int .i64 (p:Nat),.int .i64 (q:Nat)] ∧ Blk w' (wE.heap.size + 1) 83 #[.int .i64 (p:Nat),.int .i64 (q:Nat),.int .u8 (c.toNat:Int)] ∧ Below w.heap.size w w')):=⟨_,Lib.hid (fun _=>Iff.rfl)⟩
  refine wp_region_sure (S:=S) (by kernel_rfl) (by kernel_rfl) ((SE.out _).2 (⟨hk5.drew,hs5.drew,ht5.drew,(((((hB.alloc (by first | exact hB.size | (simp;have:=hB.size;omega)) (.cells #[.int .i64 (p:Nat),.int .i64 (q:Nat)] 50)).alloc (by first | exact hB.size | (simp;have:=hB.size;omega)) (.cells #[.int .i64 (p:Nat),.int .i64 (q:Nat),.int .u8 (c.toNat:Int)] 83)).alloc (by first | exact hB.size | (simp;have:=hB.size;omega)) (.cells #[.int .i64 0,.int .i64 0,.string ⟨#[]⟩] 52)).alloc (by first | exact hB.size | (simp;have:=hB.size;omega)) (.cells #[.int .i64 0,.int .i64 0,.int .u64 0] 87)).alloc (by first | exact hB.size | (simp;have:=hB.size;omega)) (.cells #[.int .i64 0,.int .i64 0,.string ⟨#[]⟩] 90)).drew⟩)) ?_
  repeat
    (first
      | (refine SureL.no (by rfl) ?_;simp only [Act.put,List.setIfInBounds_toArray,List.set_cons_zero,List.set_cons_succ])
      | (refine' SureL.yes (by rfl) (fun wS hS=>?_) ?_
         rotate_left
         · have hS':=(SE.out _).1 hS
           obtain ⟨hk,hs,ht,hB⟩:=hS'
           obtain ⟨x0,x1,x2,x3,x4⟩:=cl5 hk
           obtain ⟨y0,y1⟩:=cl2 hs
           obtain ⟨z0,z1,z2⟩:=cl3 ht
           go_simp
           first
             | exact ⟨rfl,hS⟩
         simp only [Act.put,List.setIfInBounds_toArray,List.set_cons_zero,List.set_cons_succ]))
  refine SureL.nil ?_
  intro wF hF
  obtain ⟨hk,hs,ht,hB⟩:=(SE.out _).1 hF
  clear hF SE hk5 hs5 ht5
  obtain ⟨x0,x1,x2,x3,x4⟩:=cl5 hk
  obtain ⟨y0,y1⟩:=cl2 hs
  obtain ⟨z0,z1,z2⟩:=cl3 ht
  go_wp2_with fail
  clear x0 x1 x2 x3 x4 y0 y1 z0 z1 z2
  obtain ⟨S,SE⟩:∃ S:World → Prop,Go.RowKit.Hid (∀ w':World,S w' ↔ (Blk w' w.heap.size 60 #[.int .i64 1,.int .i64 (p:Nat),.int .i64 (q:Nat),.string ⟨#[c]⟩,.int .u64 0] ∧ Blk w' wE.heap.size 50 #[.int .i64 (p:Nat),.int .i64 (q:Nat)] ∧ Blk w' (wE.heap.size + 1) 83 #[.int .i64 (p:Nat),.int .i64 (q:Nat),.int .u8 (c.toNat:Int)] ∧ Below w.heap.size w w')):=⟨_,Lib.hid (fun _=>Iff.rfl)⟩
  refine wp_region_sure (S:=S) (by kernel_rfl) (by kernel_rfl) ((SE.out _).2 (⟨hk.drew,hs.drew,ht.drew,hB.drew⟩)) ?_
  repeat
    (first
      | (refine SureL.no (by rfl) ?_;simp only [Act.put,List.setIfInBounds_toArray,List.set_cons_zero,List.set_cons_succ])
      | (refine' SureL.yes (by rfl) (fun wS hS=>?_) ?_
         rotate_left
         · have hS':=(SE.out _).1 hS
           obtain ⟨hk,hs,ht,hB⟩:=hS'
           obtain ⟨x0,x1,x2,x3,x4⟩:=cl5 hk
           obtain ⟨y0,y1⟩:=cl2 hs
           obtain ⟨z0,z1,z2⟩:=cl3 ht
           go_simp
           first
             | exact ⟨rfl,hS⟩
         simp only [Act.put,List.setIfInBounds_toArray,List.set_cons_zero,List.set_cons_succ]))
  refine SureL.nil ?_
  intro wG hG
  obtain ⟨hk,hs,ht,hB⟩:=(SE.out _).1 hG
  clear hG SE
  go_wp2_with fail
  go_ret
  exact ⟨rfl,hB⟩
set_option maxRecDepth 100000 in
set_option maxHeartbeats 4000000 in
theorem same_num (p q:Nat) (b:Nat) (w:World) :
    Calls Tryz.prog 25 #[.iface 87 (.agg #[.int .i64 (p:Nat),.int .i64 (q:Nat),.int .u64 (b:Nat)]),.agg #[.int .i64 3,.int .i64 (p:Nat),.int .i64 (q:Nat),.string ⟨#[]⟩,.int .u64 (b:Nat)]] w fun e w'=>e = .returned (.bool true) ∧ Below w.heap.size w w':=by
  have taMark:=ts_Num_Mark p q b
  have taTerm:=ts_Num_Term p q b
  have taNum:=ts_Num_Num p q b
  have taStr:=ts_Num_Str p q b
  have taLeaf:=ts_Num_Leaf p q b
  have mtPlace:=mt_Num_Place p q b
  have mtWidth:=mt_Num_Width p q b
  have mtValue:=mt_Num_Value p q b
  have hb0:=Blk.new w 60 #[.int .i64 3,.int .i64 (p:Nat),.int .i64 (q:Nat),.string ⟨#[]⟩,.int .u64 (b:Nat)]
  go_enter Tryz.func25,Tryz.ntmps25
  go_wp2_with fail
  obtain ⟨S,SD⟩:∃ S:World → Prop,Go.RowKit.Hid (∀ w':World,S w' ↔ (Blk w' w.heap.size 60 #[.int .i64 3,.int .i64 (p:Nat),.int .i64 (q:Nat),.string ⟨#[]⟩,.int .u64 (b:Nat)] ∧ Below w.heap.size w w')):=⟨_,Lib.hid (fun _=>Iff.rfl)⟩
  refine wp_region_sure (S:=S) (by kernel_rfl) (by kernel_rfl) ((SD.out _).2 (⟨hb0.drew,((Below.refl _ _).alloc (Nat.le_refl _) _).drew⟩)) ?_
  repeat
    (first
      | (refine SureL.no (by rfl) ?_;simp only [Act.put,List.setIfInBounds_toArray,List.set_cons_zero,List.set_cons_succ])
      | (refine' SureL.yes (by rfl) (fun wS hS=>?_) ?_
         rotate_left
         · have hS':=(SD.out _).1 hS
           obtain ⟨hk,hB⟩:=hS'
           have c0:=hk.cell 0
           have c1:=hk.cell 1
           have c2:=hk.cell 2
           have c3:=hk.cell 3
           have c4:=hk.cell 4
           simp at c0 c1 c2 c3 c4
           go_simp
           first
             | exact ⟨rfl,hS⟩
             | (go_at_call 179;refine (span_place _ _ _).mono ?_;rintro e w' ⟨rfl,hb⟩;exact ⟨rfl,(SD.out _).2 ⟨hk.below hb hk.lt,keepb hB hb⟩⟩)
             | (go_at_call 22;refine (span_width _ _ _).mono ?_;rintro e w' ⟨rfl,hb⟩;exact ⟨rfl,(SD.out _).2 ⟨hk.below hb hk.lt,keepb hB hb⟩⟩)
         simp only [Act.put,List.setIfInBounds_toArray,List.set_cons_zero,List.set_cons_succ]))
  refine SureL.nil ?_
  intro wE hE
  obtain ⟨hk,hB⟩:=(SD.out _).1 hE
  clear hE SD
  have c0:=hk.cell 0
  have c1:=hk.cell 1
  have c2:=hk.cell 2
  have c3:=hk.cell 3
  have c4:=hk.cell 4
  simp at c0 c1 c2 c3 c4
  have hk5:=(((((hk.alloc (.cells #[.int .i64 (p:Nat),.int .i64 (q:Nat)] 50)).alloc (.cells #[.int .i64 0,.int .i64 0,.int .u8 0] 83)).alloc (.cells #[.int .i64 0,.int .i64 0,.string ⟨#[]⟩] 52)).alloc (.cells #[.int .i64 (p:Nat),.int .i64 (q:Nat),.int .u64 (b:Nat)] 87)).alloc (.cells #[.int .i64 0,.int .i64 0,.string ⟨#[]⟩] 90))
  have hs5:=(((((Blk.new wE 50 #[.int .i64 (p:Nat),.int .i64 (q:Nat)]).alloc (.cells #[.int .i64 0,.int .i64 0,.int .u8 0] 83)).alloc (.cells #[.int .i64 0,.int .i64 0,.string ⟨#[]⟩] 52)).alloc (.cells #[.int .i64 (p:Nat),.int .i64 (q:Nat),.int .u64 (b:Nat)] 87)).alloc (.cells #[.int .i64 0,.int .i64 0,.string ⟨#[]⟩] 90))
  have ht5:=((Blk.new (((wE.alloc (.cells #[.int .i64 (p:Nat),.int .i64 (q:Nat)] 50)).alloc (.cells #[.int .i64 0,.int .i64 0,.int .u8 0] 83)).alloc (.cells #[.int .i64 0,.int .i64 0,.string ⟨#[]⟩] 52)) 87 #[.int .i64 (p:Nat),.int .i64 (q:Nat),.int .u64 (b:Nat)]).alloc (.cells #[.int .i64 0,.int .i64 0,.string ⟨#[]⟩] 90))
  simp only [World.size_alloc] at ht5
  obtain ⟨x0,x1,x2,x3,x4⟩:=cl5 hk5
  obtain ⟨y0,y1⟩:=cl2 hs5
  obtain ⟨z0,z1,z2⟩:=cl3 ht5
  go_wp2_with fail
  clear x0 x1 x2 x3 x4 y0 y1 z0 z1 z2 c0 c1 c2 c3 c4
  obtain ⟨S,SE⟩:∃ S:World → Prop,Go.RowKit.Hid (∀ w':World,S w' ↔ (Blk w' w.heap.size 60 #[.int .i64 3,.int .i64 (p:Nat),.int .i64 (q:Nat),.string ⟨#[]⟩,.int .u64 (b:Nat)] ∧ Blk w' wE.heap.size 50 #[.int .i64 (p:Nat),.int .i64 (q:Nat)] ∧ Blk w' (wE.heap.size + 1 + 1 + 1) 87 #[.int .i64 (p:Nat),.int .i64 (q:Nat),.int .u64 (b:Nat)] ∧ Below w.heap.size w w')):=⟨_,Lib.hid (fun _=>Iff.rfl)⟩
  refine wp_region_sure (S:=S) (by kernel_rfl) (by kernel_rfl) ((SE.out _).2 (⟨hk5.drew,hs5.drew,ht5.drew,(((((hB.alloc (by first | exact hB.size | (simp;have:=hB.size;omega)) (.cells #[.int .i64 (p:Nat),.int .i64 (q:Nat)] 50)).alloc (by first | exact hB.size | (simp;have:=hB.size;omega)) (.cells #[.int .i64 0,.int .i64 0,.int .u8 0] 83)).alloc (by first | exact hB.size | (simp;have:=hB.size;omega)) (.cells #[.int .i64 0,.int .i64 0,.string ⟨#[]⟩] 52)).alloc (by first | exact hB.size | (simp;have:=hB.size;omega)) (.cells #[.int .i64 (p:Nat),.int .i64 (q:Nat),.int .u64 (b:Nat)] 87)).alloc (by first | exact hB.size | (simp;have:=hB.size;omega)) (.cells #[.int .i64 0,.int .i64 0,.string ⟨#[]⟩] 90)).drew⟩)) ?_
  repeat
    (first
      | (refine SureL.no (by rfl) ?_;simp only [Act.put,List.setIfInBounds_toArray,List.set_cons_zero,List.set_cons_succ])
      | (refine' SureL.yes (by rfl) (fun wS hS=>?_) ?_
         rotate_left
         · have hS':=(SE.out _).1 hS
           obtain ⟨hk,hs,ht,hB⟩:=hS'
           obtain ⟨x0,x1,x2,x3,x4⟩:=cl5 hk
           obtain ⟨y0,y1⟩:=cl2 hs
           obtain ⟨z0,z1,z2⟩:=cl3 ht
           go_simp
           first
             | exact ⟨rfl,hS⟩
             | (go_at_call 181;refine (val_num _ _ _ _).mono ?_;rintro e w' ⟨rfl,hb⟩;exact ⟨rfl,(SE.out _).2 ⟨hk.below hb hk.lt,hs.below hb hs.lt,ht.below hb ht.lt,keepb hB hb⟩⟩)
             | (go_at_call 38;refine (value_num _ _ _ _).mono ?_;rintro e w' ⟨rfl,hb⟩;exact ⟨rfl,(SE.out _).2 ⟨hk.below hb hk.lt,hs.below hb hs.lt,ht.below hb ht.lt,keepb hB hb⟩⟩)
         simp only [Act.put,List.setIfInBounds_toArray,List.set_cons_zero,List.set_cons_succ]))
  refine SureL.nil ?_
  intro wF hF
  obtain ⟨hk,hs,ht,hB⟩:=(SE.out _).1 hF
  clear hF SE hk5 hs5 ht5
  obtain ⟨x0,x1,x2,x3,x4⟩:=cl5 hk
  obtain ⟨y0,y1⟩:=cl2 hs
  obtain ⟨z0,z1,z2⟩:=cl3 ht
  go_wp2_with fail
  go_ret
  exact ⟨rfl,hB⟩
set_option maxRecDepth 100000 in
set_option maxHeartbeats 4000000 in
theorem same_str (p q:Nat) (l:List UInt8) (w:World) :
    Calls Tryz.prog 25 #[.iface 90 (.agg #[.int .i64 (p:Nat),.int .i64 (q:Nat),.string ⟨l.toArray⟩]),.agg #[.int .i64 4,.int .i64 (p:Nat),.int .i64 (q:Nat),.string ⟨l.toArray⟩,.int .u64 0]] w fun e w'=>e = .returned (.bool true) ∧ Below w.heap.size w w':=by
  have taMark:=ts_Str_Mark p q l
  have taTerm:=ts_Str_Term p q l
  have taNum:=ts_Str_Num p q l
  have taStr:=ts_Str_Str p q l
  have taLeaf:=ts_Str_Leaf p q l
  have mtPlace:=mt_Str_Place p q l
  have mtWidth:=mt_Str_Width p q l
  have mtValue:=mt_Str_Value p q l
  have hb0:=Blk.new w 60 #[.int .i64 4,.int .i64 (p:Nat),.int .i64 (q:Nat),.string ⟨l.toArray⟩,.int .u64 0]
  go_enter Tryz.func25,Tryz.ntmps25
  go_wp2_with fail
  obtain ⟨S,SD⟩:∃ S:World → Prop,Go.RowKit.Hid (∀ w':World,S w' ↔ (Blk w' w.heap.size 60 #[.int .i64 4,.int .i64 (p:Nat),.int .i64 (q:Nat),.string ⟨l.toArray⟩,.int .u64 0] ∧ Below w.heap.size w w')):=⟨_,Lib.hid (fun _=>Iff.rfl)⟩
  refine wp_region_sure (S:=S) (by kernel_rfl) (by kernel_rfl) ((SD.out _).2 (⟨hb0.drew,((Below.refl _ _).alloc (Nat.le_refl _) _).drew⟩)) ?_
  repeat
    (first
      | (refine SureL.no (by rfl) ?_;simp only [Act.put,List.setIfInBounds_toArray,List.set_cons_zero,List.set_cons_succ])
      | (refine' SureL.yes (by rfl) (fun wS hS=>?_) ?_
         rotate_left
         · have hS':=(SD.out _).1 hS
           obtain ⟨hk,hB⟩:=hS'
           have c0:=hk.cell 0
           have c1:=hk.cell 1
           have c2:=hk.cell 2
           have c3:=hk.cell 3
           have c4:=hk.cell 4
           simp at c0 c1 c2 c3 c4
           go_simp
           first
             | exact ⟨rfl,hS⟩
             | (go_at_call 179;refine (span_place _ _ _).mono ?_;rintro e w' ⟨rfl,hb⟩;exact ⟨rfl,(SD.out _).2 ⟨hk.below hb hk.lt,keepb hB hb⟩⟩)
             | (go_at_call 22;refine (span_width _ _ _).mono ?_;rintro e w' ⟨rfl,hb⟩;exact ⟨rfl,(SD.out _).2 ⟨hk.below hb hk.lt,keepb hB hb⟩⟩)
         simp only [Act.put,List.setIfInBounds_toArray,List.set_cons_zero,List.set_cons_succ]))
  refine SureL.nil ?_
  intro wE hE
  obtain ⟨hk,hB⟩:=(SD.out _).1 hE
  clear hE SD
  have c0:=hk.cell 0
  have c1:=hk.cell 1
  have c2:=hk.cell 2
  have c3:=hk.cell 3
  have c4:=hk.cell 4
  simp at c0 c1 c2 c3 c4
  have hk5:=(((((hk.alloc (.cells #[.int .i64 (p:Nat),.int .i64 (q:Nat)] 50)).alloc (.cells #[.int .i64 0,.int .i64 0,.int .u8 0] 83)).alloc (.cells #[.int .i64 0,.int .i64 0,.string ⟨#[]⟩] 52)).alloc (.cells #[.int .i64 0,.int .i64 0,.int .u64 0] 87)).alloc (.cells #[.int .i64 (p:Nat),.int .i64 (q:Nat),.string ⟨l.toArray⟩] 90))
  have hs5:=(((((Blk.new wE 50 #[.int .i64 (p:Nat),.int .i64 (q:Nat)]).alloc (.cells #[.int .i64 0,.int .i64 0,.int .u8 0] 83)).alloc (.cells #[.int .i64 0,.int .i64 0,.string ⟨#[]⟩] 52)).alloc (.cells #[.int .i64 0,.int .i64 0,.int .u64 0] 87)).alloc (.cells #[.int .i64 (p:Nat),.int .i64 (q:Nat),.string ⟨l.toArray⟩] 90))
  have ht5:=(Blk.new ((((wE.alloc (.cells #[.int .i64 (p:Nat),.int .i64 (q:Nat)] 50)).alloc (.cells #[.int .i64 0,.int .i64 0,.int .u8 0] 83)).alloc (.cells #[.int .i64 0,.int .i64 0,.string ⟨#[]⟩] 52)).alloc (.cells #[.int .i64 0,.int .i64 0,.int .u64 0] 87)) 90 #[.int .i64 (p:Nat),.int .i64 (q:Nat),.string ⟨l.toArray⟩])
  simp only [World.size_alloc] at ht5
  obtain ⟨x0,x1,x2,x3,x4⟩:=cl5 hk5
  obtain ⟨y0,y1⟩:=cl2 hs5
  obtain ⟨z0,z1,z2⟩:=cl3 ht5
  go_wp2_with fail
  clear x0 x1 x2 x3 x4 y0 y1 z0 z1 z2 c0 c1 c2 c3 c4
  obtain ⟨S,SE⟩:∃ S:World → Prop,Go.RowKit.Hid (∀ w':World,S w' ↔ (Blk w' w.heap.size 60 #[.int .i64 4,.int .i64 (p:Nat),.int .i64 (q:Nat),.string ⟨l.toArray⟩,.int .u64 0] ∧ Blk w' wE.heap.size 50 #[.int .i64 (p:Nat),.int .i64 (q:Nat)] ∧ Blk w' (wE.heap.size + 1 + 1 + 1 + 1) 90 #[.int .i64 (p:Nat),.int .i64 (q:Nat),.string ⟨l.toArray⟩] ∧ Below w.heap.size w w')):=⟨_,Lib.hid (fun _=>Iff.rfl)⟩
  refine wp_region_sure (S:=S) (by kernel_rfl) (by kernel_rfl) ((SE.out _).2 (⟨hk5.drew,hs5.drew,ht5.drew,(((((hB.alloc (by first | exact hB.size | (simp;have:=hB.size;omega)) (.cells #[.int .i64 (p:Nat),.int .i64 (q:Nat)] 50)).alloc (by first | exact hB.size | (simp;have:=hB.size;omega)) (.cells #[.int .i64 0,.int .i64 0,.int .u8 0] 83)).alloc (by first | exact hB.size | (simp;have:=hB.size;omega)) (.cells #[.int .i64 0,.int .i64 0,.string ⟨#[]⟩] 52)).alloc (by first | exact hB.size | (simp;have:=hB.size;omega)) (.cells #[.int .i64 0,.int .i64 0,.int .u64 0] 87)).alloc (by first | exact hB.size | (simp;have:=hB.size;omega)) (.cells #[.int .i64 (p:Nat),.int .i64 (q:Nat),.string ⟨l.toArray⟩] 90)).drew⟩)) ?_
  repeat
    (first
      | (refine SureL.no (by rfl) ?_;simp only [Act.put,List.setIfInBounds_toArray,List.set_cons_zero,List.set_cons_succ])
      | (refine' SureL.yes (by rfl) (fun wS hS=>?_) ?_
         rotate_left
         · have hS':=(SE.out _).1 hS
           obtain ⟨hk,hs,ht,hB⟩:=hS'
           obtain ⟨x0,x1,x2,x3,x4⟩:=cl5 hk
           obtain ⟨y0,y1⟩:=cl2 hs
           obtain ⟨z0,z1,z2⟩:=cl3 ht
           go_simp
           first
             | exact ⟨rfl,hS⟩
             | (go_at_call 183;refine (val_str _ _ _ _).mono ?_;rintro e w' ⟨rfl,hb⟩;exact ⟨rfl,(SE.out _).2 ⟨hk.below hb hk.lt,hs.below hb hs.lt,ht.below hb ht.lt,keepb hB hb⟩⟩)
             | (go_at_call 38;refine (value_str _ _ _ _).mono ?_;rintro e w' ⟨rfl,hb⟩;exact ⟨rfl,(SE.out _).2 ⟨hk.below hb hk.lt,hs.below hb hs.lt,ht.below hb ht.lt,keepb hB hb⟩⟩)
         simp only [Act.put,List.setIfInBounds_toArray,List.set_cons_zero,List.set_cons_succ]))
  refine SureL.nil ?_
  intro wF hF
  obtain ⟨hk,hs,ht,hB⟩:=(SE.out _).1 hF
  clear hF SE hk5 hs5 ht5
  obtain ⟨x0,x1,x2,x3,x4⟩:=cl5 hk
  obtain ⟨y0,y1⟩:=cl2 hs
  obtain ⟨z0,z1,z2⟩:=cl3 ht
  go_wp2_with fail
  go_ret
  exact ⟨rfl,hB⟩
set_option maxRecDepth 100000 in
set_option maxHeartbeats 4000000 in
theorem same_null (p q:Nat) (w:World) :
    Calls Tryz.prog 25 #[.iface 52 (.agg #[.int .i64 (p:Nat),.int .i64 (q:Nat),.string ⟨#[110,117,108,108]⟩]),.agg #[.int .i64 2,.int .i64 (p:Nat),.int .i64 (q:Nat),.string ⟨#[110,117,108,108]⟩,.int .u64 0]] w fun e w'=>e = .returned (.bool true) ∧ Below w.heap.size w w':=by
  have taMark:=ts_Term_Mark p q [110,117,108,108]
  have taTerm:=ts_Term_Term p q [110,117,108,108]
  have taNum:=ts_Term_Num p q [110,117,108,108]
  have taStr:=ts_Term_Str p q [110,117,108,108]
  have taLeaf:=ts_Term_Leaf p q [110,117,108,108]
  have mtPlace:=mt_Term_Place p q [110,117,108,108]
  have mtWidth:=mt_Term_Width p q [110,117,108,108]
  have mtValue:=mt_Term_Value p q [110,117,108,108]
  have hb0:=Blk.new w 60 #[.int .i64 2,.int .i64 (p:Nat),.int .i64 (q:Nat),.string ⟨#[110,117,108,108]⟩,.int .u64 0]
  go_enter Tryz.func25,Tryz.ntmps25
  go_wp2_with fail
  obtain ⟨S,SD⟩:∃ S:World → Prop,Go.RowKit.Hid (∀ w':World,S w' ↔ (Blk w' w.heap.size 60 #[.int .i64 2,.int .i64 (p:Nat),.int .i64 (q:Nat),.string ⟨#[110,117,108,108]⟩,.int .u64 0] ∧ Below w.heap.size w w')):=⟨_,Lib.hid (fun _=>Iff.rfl)⟩
  refine wp_region_sure (S:=S) (by kernel_rfl) (by kernel_rfl) ((SD.out _).2 (⟨hb0.drew,((Below.refl _ _).alloc (Nat.le_refl _) _).drew⟩)) ?_
  repeat
    (first
      | (refine SureL.no (by rfl) ?_;simp only [Act.put,List.setIfInBounds_toArray,List.set_cons_zero,List.set_cons_succ])
      | (refine' SureL.yes (by rfl) (fun wS hS=>?_) ?_
         rotate_left
         · have hS':=(SD.out _).1 hS
           obtain ⟨hk,hB⟩:=hS'
           have c0:=hk.cell 0
           have c1:=hk.cell 1
           have c2:=hk.cell 2
           have c3:=hk.cell 3
           have c4:=hk.cell 4
           simp at c0 c1 c2 c3 c4
           go_simp
           first
             | exact ⟨rfl,hS⟩
             | (go_at_call 179;refine (span_place _ _ _).mono ?_;rintro e w' ⟨rfl,hb⟩;exact ⟨rfl,(SD.out _).2 ⟨hk.below hb hk.lt,keepb hB hb⟩⟩)
             | (go_at_call 22;refine (span_width _ _ _).mono ?_;rintro e w' ⟨rfl,hb⟩;exact ⟨rfl,(SD.out _).2 ⟨hk.below hb hk.lt,keepb hB hb⟩⟩)
         simp only [Act.put,List.setIfInBounds_toArray,List.set_cons_zero,List.set_cons_succ]))
  refine SureL.nil ?_
  intro wE hE
  obtain ⟨hk,hB⟩:=(SD.out _).1 hE
  clear hE SD
  have c0:=hk.cell 0
  have c1:=hk.cell 1
  have c2:=hk.cell 2
  have c3:=hk.cell 3
  have c4:=hk.cell 4
  simp at c0 c1 c2 c3 c4
  have hk5:=(((((hk.alloc (.cells #[.int .i64 (p:Nat),.int .i64 (q:Nat)] 50)).alloc (.cells #[.int .i64 0,.int .i64 0,.int .u8 0] 83)).alloc (.cells #[.int .i64 (p:Nat),.int .i64 (q:Nat),.string ⟨#[110,117,108,108]⟩] 52)).alloc (.cells #[.int .i64 0,.int .i64 0,.int .u64 0] 87)).alloc (.cells #[.int .i64 0,.int .i64 0,.string ⟨#[]⟩] 90))
  have hs5:=(((((Blk.new wE 50 #[.int .i64 (p:Nat),.int .i64 (q:Nat)]).alloc (.cells #[.int .i64 0,.int .i64 0,.int .u8 0] 83)).alloc (.cells #[.int .i64 (p:Nat),.int .i64 (q:Nat),.string ⟨#[110,117,108,108]⟩] 52)).alloc (.cells #[.int .i64 0,.int .i64 0,.int .u64 0] 87)).alloc (.cells #[.int .i64 0,.int .i64 0,.string ⟨#[]⟩] 90))
  have ht5:=(((Blk.new ((wE.alloc (.cells #[.int .i64 (p:Nat),.int .i64 (q:Nat)] 50)).alloc (.cells #[.int .i64 0,.int .i64 0,.int .u8 0] 83)) 52 #[.int .i64 (p:Nat),.int .i64 (q:Nat),.string ⟨#[110,117,108,108]⟩]).alloc (.cells #[.int .i64 0,.int .i64 0,.int .u64 0] 87)).alloc (.cells #[.int .i64 0,.int .i64 0,.string ⟨#[]⟩] 90))
  simp only [World.size_alloc] at ht5
  obtain ⟨x0,x1,x2,x3,x4⟩:=cl5 hk5
  obtain ⟨y0,y1⟩:=cl2 hs5
  obtain ⟨z0,z1,z2⟩:=cl3 ht5
  go_wp2_with fail
  clear x0 x1 x2 x3 x4 y0 y1 z0 z1 z2 c0 c1 c2 c3 c4
  obtain ⟨S,SE⟩:∃ S:World → Prop,Go.RowKit.Hid (∀ w':World,S w' ↔ (Blk w' w.heap.size 60 #[.int .i64 2,.int .i64 (p:Nat),.int .i64 (q:Nat),.string ⟨#[110,117,108,108]⟩,.int .u64 0] ∧ Blk w' wE.heap.size 50 #[.int .i64 (p:Nat),.int .i64 (q:Nat)] ∧ Blk w' (wE.heap.size + 1 + 1) 52 #[.int .i64 (p:Nat),.int .i64 (q:Nat),.string ⟨#[110,117,108,108]⟩] ∧ Below w.heap.size w w')):=⟨_,Lib.hid (fun _=>Iff.rfl)⟩
  refine wp_region_sure (S:=S) (by kernel_rfl) (by kernel_rfl) ((SE.out _).2 (⟨hk5.drew,hs5.drew,ht5.drew,(((((hB.alloc (by first | exact hB.size | (simp;have:=hB.size;omega)) (.cells #[.int .i64 (p:Nat),.int .i64 (q:Nat)] 50)).alloc (by first | exact hB.size | (simp;have:=hB.size;omega)) (.cells #[.int .i64 0,.int .i64 0,.int .u8 0] 83)).alloc (by first | exact hB.size | (simp;have:=hB.size;omega)) (.cells #[.int .i64 (p:Nat),.int .i64 (q:Nat),.string ⟨#[110,117,108,108]⟩] 52)).alloc (by first | exact hB.size | (simp;have:=hB.size;omega)) (.cells #[.int .i64 0,.int .i64 0,.int .u64 0] 87)).alloc (by first | exact hB.size | (simp;have:=hB.size;omega)) (.cells #[.int .i64 0,.int .i64 0,.string ⟨#[]⟩] 90)).drew⟩)) ?_
  repeat
    (first
      | (refine SureL.no (by rfl) ?_;simp only [Act.put,List.setIfInBounds_toArray,List.set_cons_zero,List.set_cons_succ])
      | (refine' SureL.yes (by rfl) (fun wS hS=>?_) ?_
         rotate_left
         · have hS':=(SE.out _).1 hS
           obtain ⟨hk,hs,ht,hB⟩:=hS'
           obtain ⟨x0,x1,x2,x3,x4⟩:=cl5 hk
           obtain ⟨y0,y1⟩:=cl2 hs
           obtain ⟨z0,z1,z2⟩:=cl3 ht
           go_simp
           first
             | exact ⟨rfl,hS⟩
             | (go_at_call 21;refine (val_null _ _ _).mono ?_;rintro e w' ⟨rfl,hb⟩;exact ⟨rfl,(SE.out _).2 ⟨hk.below hb hk.lt,hs.below hb hs.lt,ht.below hb ht.lt,keepb hB hb⟩⟩)
             | (go_at_call 38;refine (value_null _ _ _).mono ?_;rintro e w' ⟨rfl,hb⟩;exact ⟨rfl,(SE.out _).2 ⟨hk.below hb hk.lt,hs.below hb hs.lt,ht.below hb ht.lt,keepb hB hb⟩⟩)
         simp only [Act.put,List.setIfInBounds_toArray,List.set_cons_zero,List.set_cons_succ]))
  refine SureL.nil ?_
  intro wF hF
  obtain ⟨hk,hs,ht,hB⟩:=(SE.out _).1 hF
  clear hF SE hk5 hs5 ht5
  obtain ⟨x0,x1,x2,x3,x4⟩:=cl5 hk
  obtain ⟨y0,y1⟩:=cl2 hs
  obtain ⟨z0,z1,z2⟩:=cl3 ht
  go_wp2_with fail
  go_ret
  exact ⟨rfl,hB⟩
set_option maxRecDepth 100000 in
set_option maxHeartbeats 4000000 in
theorem same_true (p q:Nat) (w:World) :
    Calls Tryz.prog 25 #[.iface 52 (.agg #[.int .i64 (p:Nat),.int .i64 (q:Nat),.string ⟨#[116,114,117,101]⟩]),.agg #[.int .i64 2,.int .i64 (p:Nat),.int .i64 (q:Nat),.string ⟨#[116,114,117,101]⟩,.int .u64 0]] w fun e w'=>e = .returned (.bool true) ∧ Below w.heap.size w w':=by
  have taMark:=ts_Term_Mark p q [116,114,117,101]
  have taTerm:=ts_Term_Term p q [116,114,117,101]
  have taNum:=ts_Term_Num p q [116,114,117,101]
  have taStr:=ts_Term_Str p q [116,114,117,101]
  have taLeaf:=ts_Term_Leaf p q [116,114,117,101]
  have mtPlace:=mt_Term_Place p q [116,114,117,101]
  have mtWidth:=mt_Term_Width p q [116,114,117,101]
  have mtValue:=mt_Term_Value p q [116,114,117,101]
  have hb0:=Blk.new w 60 #[.int .i64 2,.int .i64 (p:Nat),.int .i64 (q:Nat),.string ⟨#[116,114,117,101]⟩,.int .u64 0]
  go_enter Tryz.func25,Tryz.ntmps25
  go_wp2_with fail
  obtain ⟨S,SD⟩:∃ S:World → Prop,Go.RowKit.Hid (∀ w':World,S w' ↔ (Blk w' w.heap.size 60 #[.int .i64 2,.int .i64 (p:Nat),.int .i64 (q:Nat),.string ⟨#[116,114,117,101]⟩,.int .u64 0] ∧ Below w.heap.size w w')):=⟨_,Lib.hid (fun _=>Iff.rfl)⟩
  refine wp_region_sure (S:=S) (by kernel_rfl) (by kernel_rfl) ((SD.out _).2 (⟨hb0.drew,((Below.refl _ _).alloc (Nat.le_refl _) _).drew⟩)) ?_
  repeat
    (first
      | (refine SureL.no (by rfl) ?_;simp only [Act.put,List.setIfInBounds_toArray,List.set_cons_zero,List.set_cons_succ])
      | (refine' SureL.yes (by rfl) (fun wS hS=>?_) ?_
         rotate_left
         · have hS':=(SD.out _).1 hS
           obtain ⟨hk,hB⟩:=hS'
           have c0:=hk.cell 0
           have c1:=hk.cell 1
           have c2:=hk.cell 2
           have c3:=hk.cell 3
           have c4:=hk.cell 4
           simp at c0 c1 c2 c3 c4
           go_simp
           first
             | exact ⟨rfl,hS⟩
             | (go_at_call 179;refine (span_place _ _ _).mono ?_;rintro e w' ⟨rfl,hb⟩;exact ⟨rfl,(SD.out _).2 ⟨hk.below hb hk.lt,keepb hB hb⟩⟩)
             | (go_at_call 22;refine (span_width _ _ _).mono ?_;rintro e w' ⟨rfl,hb⟩;exact ⟨rfl,(SD.out _).2 ⟨hk.below hb hk.lt,keepb hB hb⟩⟩)
         simp only [Act.put,List.setIfInBounds_toArray,List.set_cons_zero,List.set_cons_succ]))
  refine SureL.nil ?_
  intro wE hE
  obtain ⟨hk,hB⟩:=(SD.out _).1 hE
  clear hE SD
  have c0:=hk.cell 0
  have c1:=hk.cell 1
  have c2:=hk.cell 2
  have c3:=hk.cell 3
  have c4:=hk.cell 4
  simp at c0 c1 c2 c3 c4
  have hk5:=(((((hk.alloc (.cells #[.int .i64 (p:Nat),.int .i64 (q:Nat)] 50)).alloc (.cells #[.int .i64 0,.int .i64 0,.int .u8 0] 83)).alloc (.cells #[.int .i64 (p:Nat),.int .i64 (q:Nat),.string ⟨#[116,114,117,101]⟩] 52)).alloc (.cells #[.int .i64 0,.int .i64 0,.int .u64 0] 87)).alloc (.cells #[.int .i64 0,.int .i64 0,.string ⟨#[]⟩] 90))
  have hs5:=(((((Blk.new wE 50 #[.int .i64 (p:Nat),.int .i64 (q:Nat)]).alloc (.cells #[.int .i64 0,.int .i64 0,.int .u8 0] 83)).alloc (.cells #[.int .i64 (p:Nat),.int .i64 (q:Nat),.string ⟨#[116,114,117,101]⟩] 52)).alloc (.cells #[.int .i64 0,.int .i64 0,.int .u64 0] 87)).alloc (.cells #[.int .i64 0,.int .i64 0,.string ⟨#[]⟩] 90))
  have ht5:=(((Blk.new ((wE.alloc (.cells #[.int .i64 (p:Nat),.int .i64 (q:Nat)] 50)).alloc (.cells #[.int .i64 0,.int .i64 0,.int .u8 0] 83)) 52 #[.int .i64 (p:Nat),.int .i64 (q:Nat),.string ⟨#[116,114,117,101]⟩]).alloc (.cells #[.int .i64 0,.int .i64 0,.int .u64 0] 87)).alloc (.cells #[.int .i64 0,.int .i64 0,.string ⟨#[]⟩] 90))
  simp only [World.size_alloc] at ht5
  obtain ⟨x0,x1,x2,x3,x4⟩:=cl5 hk5
  obtain ⟨y0,y1⟩:=cl2 hs5
  obtain ⟨z0,z1,z2⟩:=cl3 ht5
  go_wp2_with fail
  clear x0 x1 x2 x3 x4 y0 y1 z0 z1 z2 c0 c1 c2 c3 c4
  obtain ⟨S,SE⟩:∃ S:World → Prop,Go.RowKit.Hid (∀ w':World,S w' ↔ (Blk w' w.heap.size 60 #[.int .i64 2,.int .i64 (p:Nat),.int .i64 (q:Nat),.string ⟨#[116,114,117,101]⟩,.int .u64 0] ∧ Blk w' wE.heap.size 50 #[.int .i64 (p:Nat),.int .i64 (q:Nat)] ∧ Blk w' (wE.heap.size + 1 + 1) 52 #[.int .i64 (p:Nat),.int .i64 (q:Nat),.string ⟨#[116,114,117,101]⟩] ∧ Below w.heap.size w w')):=⟨_,Lib.hid (fun _=>Iff.rfl)⟩
  refine wp_region_sure (S:=S) (by kernel_rfl) (by kernel_rfl) ((SE.out _).2 (⟨hk5.drew,hs5.drew,ht5.drew,(((((hB.alloc (by first | exact hB.size | (simp;have:=hB.size;omega)) (.cells #[.int .i64 (p:Nat),.int .i64 (q:Nat)] 50)).alloc (by first | exact hB.size | (simp;have:=hB.size;omega)) (.cells #[.int .i64 0,.int .i64 0,.int .u8 0] 83)).alloc (by first | exact hB.size | (simp;have:=hB.size;omega)) (.cells #[.int .i64 (p:Nat),.int .i64 (q:Nat),.string ⟨#[116,114,117,101]⟩] 52)).alloc (by first | exact hB.size | (simp;have:=hB.size;omega)) (.cells #[.int .i64 0,.int .i64 0,.int .u64 0] 87)).alloc (by first | exact hB.size | (simp;have:=hB.size;omega)) (.cells #[.int .i64 0,.int .i64 0,.string ⟨#[]⟩] 90)).drew⟩)) ?_
  repeat
    (first
      | (refine SureL.no (by rfl) ?_;simp only [Act.put,List.setIfInBounds_toArray,List.set_cons_zero,List.set_cons_succ])
      | (refine' SureL.yes (by rfl) (fun wS hS=>?_) ?_
         rotate_left
         · have hS':=(SE.out _).1 hS
           obtain ⟨hk,hs,ht,hB⟩:=hS'
           obtain ⟨x0,x1,x2,x3,x4⟩:=cl5 hk
           obtain ⟨y0,y1⟩:=cl2 hs
           obtain ⟨z0,z1,z2⟩:=cl3 ht
           go_simp
           first
             | exact ⟨rfl,hS⟩
             | (go_at_call 21;refine (val_true _ _ _).mono ?_;rintro e w' ⟨rfl,hb⟩;exact ⟨rfl,(SE.out _).2 ⟨hk.below hb hk.lt,hs.below hb hs.lt,ht.below hb ht.lt,keepb hB hb⟩⟩)
             | (go_at_call 38;refine (value_true _ _ _).mono ?_;rintro e w' ⟨rfl,hb⟩;exact ⟨rfl,(SE.out _).2 ⟨hk.below hb hk.lt,hs.below hb hs.lt,ht.below hb ht.lt,keepb hB hb⟩⟩)
         simp only [Act.put,List.setIfInBounds_toArray,List.set_cons_zero,List.set_cons_succ]))
  refine SureL.nil ?_
  intro wF hF
  obtain ⟨hk,hs,ht,hB⟩:=(SE.out _).1 hF
  clear hF SE hk5 hs5 ht5
  obtain ⟨x0,x1,x2,x3,x4⟩:=cl5 hk
  obtain ⟨y0,y1⟩:=cl2 hs
  obtain ⟨z0,z1,z2⟩:=cl3 ht
  go_wp2_with fail
  go_ret
  exact ⟨rfl,hB⟩
set_option maxRecDepth 100000 in
set_option maxHeartbeats 4000000 in
theorem same_false (p q:Nat) (w:World) :
    Calls Tryz.prog 25 #[.iface 52 (.agg #[.int .i64 (p:Nat),.int .i64 (q:Nat),.string ⟨#[102,97,108,115,101]⟩]),.agg #[.int .i64 2,.int .i64 (p:Nat),.int .i64 (q:Nat),.string ⟨#[102,97,108,115,101]⟩,.int .u64 0]] w fun e w'=>e = .returned (.bool true) ∧ Below w.heap.size w w':=by
  have taMark:=ts_Term_Mark p q [102,97,108,115,101]
  have taTerm:=ts_Term_Term p q [102,97,108,115,101]
  have taNum:=ts_Term_Num p q [102,97,108,115,101]
  have taStr:=ts_Term_Str p q [102,97,108,115,101]
  have taLeaf:=ts_Term_Leaf p q [102,97,108,115,101]
  have mtPlace:=mt_Term_Place p q [102,97,108,115,101]
  have mtWidth:=mt_Term_Width p q [102,97,108,115,101]
  have mtValue:=mt_Term_Value p q [102,97,108,115,101]
  have hb0:=Blk.new w 60 #[.int .i64 2,.int .i64 (p:Nat),.int .i64 (q:Nat),.string ⟨#[102,97,108,115,101]⟩,.int .u64 0]
  go_enter Tryz.func25,Tryz.ntmps25
  go_wp2_with fail
  obtain ⟨S,SD⟩:∃ S:World → Prop,Go.RowKit.Hid (∀ w':World,S w' ↔ (Blk w' w.heap.size 60 #[.int .i64 2,.int .i64 (p:Nat),.int .i64 (q:Nat),.string ⟨#[102,97,108,115,101]⟩,.int .u64 0] ∧ Below w.heap.size w w')):=⟨_,Lib.hid (fun _=>Iff.rfl)⟩
  refine wp_region_sure (S:=S) (by kernel_rfl) (by kernel_rfl) ((SD.out _).2 (⟨hb0.drew,((Below.refl _ _).alloc (Nat.le_refl _) _).drew⟩)) ?_
  repeat
    (first
      | (refine SureL.no (by rfl) ?_;simp only [Act.put,List.setIfInBounds_toArray,List.set_cons_zero,List.set_cons_succ])
      | (refine' SureL.yes (by rfl) (fun wS hS=>?_) ?_
         rotate_left
         · have hS':=(SD.out _).1 hS
           obtain ⟨hk,hB⟩:=hS'
           have c0:=hk.cell 0
           have c1:=hk.cell 1
           have c2:=hk.cell 2
           have c3:=hk.cell 3
           have c4:=hk.cell 4
           simp at c0 c1 c2 c3 c4
           go_simp
           first
             | exact ⟨rfl,hS⟩
             | (go_at_call 179;refine (span_place _ _ _).mono ?_;rintro e w' ⟨rfl,hb⟩;exact ⟨rfl,(SD.out _).2 ⟨hk.below hb hk.lt,keepb hB hb⟩⟩)
             | (go_at_call 22;refine (span_width _ _ _).mono ?_;rintro e w' ⟨rfl,hb⟩;exact ⟨rfl,(SD.out _).2 ⟨hk.below hb hk.lt,keepb hB hb⟩⟩)
         simp only [Act.put,List.setIfInBounds_toArray,List.set_cons_zero,List.set_cons_succ]))
  refine SureL.nil ?_
  intro wE hE
  obtain ⟨hk,hB⟩:=(SD.out _).1 hE
  clear hE SD
  have c0:=hk.cell 0
  have c1:=hk.cell 1
  have c2:=hk.cell 2
  have c3:=hk.cell 3
  have c4:=hk.cell 4
  simp at c0 c1 c2 c3 c4
  have hk5:=(((((hk.alloc (.cells #[.int .i64 (p:Nat),.int .i64 (q:Nat)] 50)).alloc (.cells #[.int .i64 0,.int .i64 0,.int .u8 0] 83)).alloc (.cells #[.int .i64 (p:Nat),.int .i64 (q:Nat),.string ⟨#[102,97,108,115,101]⟩] 52)).alloc (.cells #[.int .i64 0,.int .i64 0,.int .u64 0] 87)).alloc (.cells #[.int .i64 0,.int .i64 0,.string ⟨#[]⟩] 90))
  have hs5:=(((((Blk.new wE 50 #[.int .i64 (p:Nat),.int .i64 (q:Nat)]).alloc (.cells #[.int .i64 0,.int .i64 0,.int .u8 0] 83)).alloc (.cells #[.int .i64 (p:Nat),.int .i64 (q:Nat),.string ⟨#[102,97,108,115,101]⟩] 52)).alloc (.cells #[.int .i64 0,.int .i64 0,.int .u64 0] 87)).alloc (.cells #[.int .i64 0,.int .i64 0,.string ⟨#[]⟩] 90))
  have ht5:=(((Blk.new ((wE.alloc (.cells #[.int .i64 (p:Nat),.int .i64 (q:Nat)] 50)).alloc (.cells #[.int .i64 0,.int .i64 0,.int .u8 0] 83)) 52 #[.int .i64 (p:Nat),.int .i64 (q:Nat),.string ⟨#[102,97,108,115,101]⟩]).alloc (.cells #[.int .i64 0,.int .i64 0,.int .u64 0] 87)).alloc (.cells #[.int .i64 0,.int .i64 0,.string ⟨#[]⟩] 90))
  simp only [World.size_alloc] at ht5
  obtain ⟨x0,x1,x2,x3,x4⟩:=cl5 hk5
  obtain ⟨y0,y1⟩:=cl2 hs5
  obtain ⟨z0,z1,z2⟩:=cl3 ht5
  go_wp2_with fail
  clear x0 x1 x2 x3 x4 y0 y1 z0 z1 z2 c0 c1 c2 c3 c4
  obtain ⟨S,SE⟩:∃ S:World → Prop,Go.RowKit.Hid (∀ w':World,S w' ↔ (Blk w' w.heap.size 60 #[.int .i64 2,.int .i64 (p:Nat),.int .i64 (q:Nat),.string ⟨#[102,97,108,115,101]⟩,.int .u64 0] ∧ Blk w' wE.heap.size 50 #[.int .i64 (p:Nat),.int .i64 (q:Nat)] ∧ Blk w' (wE.heap.size + 1 + 1) 52 #[.int .i64 (p:Nat),.int .i64 (q:Nat),.string ⟨#[102,97,108,115,101]⟩] ∧ Below w.heap.size w w')):=⟨_,Lib.hid (fun _=>Iff.rfl)⟩
  refine wp_region_sure (S:=S) (by kernel_rfl) (by kernel_rfl) ((SE.out _).2 (⟨hk5.drew,hs5.drew,ht5.drew,(((((hB.alloc (by first | exact hB.size | (simp;have:=hB.size;omega)) (.cells #[.int .i64 (p:Nat),.int .i64 (q:Nat)] 50)).alloc (by first | exact hB.size | (simp;have:=hB.size;omega)) (.cells #[.int .i64 0,.int .i64 0,.int .u8 0] 83)).alloc (by first | exact hB.size | (simp;have:=hB.size;omega)) (.cells #[.int .i64 (p:Nat),.int .i64 (q:Nat),.string ⟨#[102,97,108,115,101]⟩] 52)).alloc (by first | exact hB.size | (simp;have:=hB.size;omega)) (.cells #[.int .i64 0,.int .i64 0,.int .u64 0] 87)).alloc (by first | exact hB.size | (simp;have:=hB.size;omega)) (.cells #[.int .i64 0,.int .i64 0,.string ⟨#[]⟩] 90)).drew⟩)) ?_
  repeat
    (first
      | (refine SureL.no (by rfl) ?_;simp only [Act.put,List.setIfInBounds_toArray,List.set_cons_zero,List.set_cons_succ])
      | (refine' SureL.yes (by rfl) (fun wS hS=>?_) ?_
         rotate_left
         · have hS':=(SE.out _).1 hS
           obtain ⟨hk,hs,ht,hB⟩:=hS'
           obtain ⟨x0,x1,x2,x3,x4⟩:=cl5 hk
           obtain ⟨y0,y1⟩:=cl2 hs
           obtain ⟨z0,z1,z2⟩:=cl3 ht
           go_simp
           first
             | exact ⟨rfl,hS⟩
             | (go_at_call 21;refine (val_false _ _ _).mono ?_;rintro e w' ⟨rfl,hb⟩;exact ⟨rfl,(SE.out _).2 ⟨hk.below hb hk.lt,hs.below hb hs.lt,ht.below hb ht.lt,keepb hB hb⟩⟩)
             | (go_at_call 38;refine (value_false _ _ _).mono ?_;rintro e w' ⟨rfl,hb⟩;exact ⟨rfl,(SE.out _).2 ⟨hk.below hb hk.lt,hs.below hb hs.lt,ht.below hb ht.lt,keepb hB hb⟩⟩)
         simp only [Act.put,List.setIfInBounds_toArray,List.set_cons_zero,List.set_cons_succ]))
  refine SureL.nil ?_
  intro wF hF
  obtain ⟨hk,hs,ht,hB⟩:=(SE.out _).1 hF
  clear hF SE hk5 hs5 ht5
  obtain ⟨x0,x1,x2,x3,x4⟩:=cl5 hk
  obtain ⟨y0,y1⟩:=cl2 hs
  obtain ⟨z0,z1,z2⟩:=cl3 ht
  go_wp2_with fail
  go_ret
  exact ⟨rfl,hB⟩
end Go.Proofs.YtgmholdkdppbmaaGreatDoor.Lx

namespace Go.Proofs.YtgmholdkdppbmaaGreatDoor.Lx
open Go.RowKit Go.Shelf
attribute [local go_sem] SGives_value SGives_skip SGives_enter
def TermOk (t:Tok):Prop:=∀ l,t.k = .term l → l = [110,117,108,108] ∨ l = [116,114,117,101] ∨ l = [102,97,108,115,101]
theorem word_three {c:UInt8} (h:wordOf c ≠ []):wordOf c = [110,117,108,108] ∨ wordOf c = [116,114,117,101] ∨ wordOf c = [102,97,108,115,101]:=by
  unfold wordOf at h ⊢
  by_cases h1:c = 110
  · exact .inl (if_pos h1)
  · rw [if_neg h1] at h ⊢
    by_cases h2:c = 116
    · exact .inr (.inl (if_pos h2))
    · rw [if_neg h2] at h ⊢
      by_cases h3:c = 102
      · exact .inr (.inr (if_pos h3))
      · rw [if_neg h3] at h;exact absurd rfl h
theorem item_term {fl:List UInt8 → Option Nat} {s:List UInt8} {en:Bool} {i:Nat} {t:Tok} {tq:Nat} (h:item fl s en i = .tok t tq):TermOk t:=by
  unfold item at h
  by_cases h1:blankB (s.getD i 0) = true
  · rw [if_pos h1] at h;cases h
  rw [if_neg h1] at h
  by_cases h2:markB (s.getD i 0) = true
  · rw [if_pos h2] at h;injection h with h _;subst h;intro l hl;cases hl
  rw [if_neg h2] at h
  by_cases h3:wordOf (s.getD i 0) ≠ []
  · rw [if_pos h3] at h
    unfold wordI at h
    by_cases h4:cpl (wordOf (s.getD i 0)) (s.drop i) < (wordOf (s.getD i 0)).length
    · rw [if_pos h4] at h
      split at h <;> cases h
    · rw [if_neg h4] at h
      injection h with h _
      subst h
      intro l hl
      injection hl with hl
      rw [← hl]
      exact word_three h3
  rw [if_neg h3] at h
  by_cases h5:s.getD i 0 = 34
  · rw [if_pos h5] at h
    unfold txtI at h
    split at h
    · injection h with h _;subst h;intro l hl;cases hl
    · cases h
    · cases h
  rw [if_neg h5] at h
  split at h
  · cases h
  unfold numI at h
  split at h
  · cases h
  split at h
  · cases h
  split at h
  · cases h
  · injection h with h _;subst h;intro l hl;cases hl
theorem rd_term (fl:List UInt8 → Option Nat) (s:List UInt8) (en:Bool) (i:Nat):∀ t ∈ (rdF fl s en i).toks,TermOk t:=by
  generalize hn:s.length - i = n
  induction n using Nat.strongRecOn generalizing i with
  | ind n ih =>
    by_cases hl:i < s.length
    · rw [rdF,dif_pos hl]
      cases hT:item fl s en i with
      | skip=>exact ih _ (by omega) (i + 1) rfl
      | tok t tq =>
        intro x hx
        rcases List.mem_cons.1 hx with rfl | hx
        · exact item_term hT
        · exact ih _ (by omega) (i + (tq - i - 1) + 1) rfl x hx
      | bad no p f=>intro x hx;cases hx
      | cut=>intro x hx;simp only [] at hx;split at hx <;> cases hx
    · rw [rdF,dif_neg hl];intro x hx;cases hx
theorem rd_len (fl:List UInt8 → Option Nat) (s:List UInt8) (en:Bool) (i:Nat):(rdF fl s en i).toks.length ≤ s.length - i:=by
  generalize hn:s.length - i = n
  induction n using Nat.strongRecOn generalizing i with
  | ind n ih =>
    by_cases hl:i < s.length
    · rw [rdF,dif_pos hl]
      cases hT:item fl s en i with
      | skip=>have:=ih _ (by omega) (i + 1) rfl;simp only [];omega
      | tok t tq =>
        have:=ih _ (by omega) (i + (tq - i - 1) + 1) rfl
        simp only [Ot.cons,List.length_cons]
        omega
      | bad no p f=>simp
      | cut=>simp only [];split <;> simp
    · rw [rdF,dif_neg hl];simp
theorem refO_len (s:List UInt8) (en:Bool):(refO s en).toks.length ≤ s.length:=by
  have h1:=rd_len flP s en 0
  have h2:=rd_len flP (s.take 16777216) false 0
  have h3:(s.take 16777216).length ≤ s.length:=by rw [List.length_take];omega
  unfold refO
  split
  · omega
  · split
    · simp only [];omega
    · omega
theorem refO_term (s:List UInt8) (en:Bool):∀ t ∈ (refO s en).toks,TermOk t:=by
  unfold refO
  split
  · exact rd_term _ _ _ _
  · split
    · exact rd_term flP (s.take 16777216) false 0
    · exact rd_term _ _ _ _
theorem same_any (t:Tok) (ht:TermOk t) (w:World):Calls Tryz.prog 25 #[tokV t,.agg (tokR t).toArray] w fun e w'=>e = .returned (.bool true) ∧ Below w.heap.size w w':=by
  obtain ⟨p,q,k⟩:=t
  cases k with
  | mark c=>exact same_mark p q c w
  | num b=>exact same_num p q b w
  | str l=>exact same_str p q l w
  | term l =>
    rcases ht l rfl with rfl | rfl | rfl
    · exact same_null p q w
    · exact same_true p q w
    · exact same_false p q w
theorem flat5:∀ (toks:List Tok) (i:Nat) (t:Tok),toks[i]? = some t → ∀ j,j < 5 → (toks.flatMap tokR)[i * 5 + j]? = (tokR t)[j]?
  | [],i,t,h,j,hj=>by simp at h
  | a :: l,0,t,h,j,hj=>by
    simp at h;subst h
    rw [List.flatMap_cons,List.getElem?_append_left (by rw [tokR_len];omega)]
    simp
  | a :: l,i + 1,t,h,j,hj=>by
    rw [List.flatMap_cons,List.getElem?_append_right (by rw [tokR_len];omega),tokR_len,show (i + 1) * 5 + j - 5 = i * 5 + j by omega]
    exact flat5 l i t (by simpa using h) j hj
theorem tok_cells {t:Tok}:∃ a b c d e,tokR t = [a,b,c,d,e]:=by
  unfold tokR
  cases t.k <;> exact ⟨_,_,_,_,_,rfl⟩
theorem row5 {w:World} {B g cap:Nat} {toks:List Tok} (h:w.ownsRow B 60 5 (.slice (some ⟨g,0,none⟩) toks.length cap) toks.length (toks.flatMap tokR)) {i:Nat} {t:Tok} (ht:toks[i]? = some t) {a b c d e:Value} (hr:tokR t = [a,b,c,d,e]) :
    w.cell? ⟨g,i * 5,none⟩ = some a ∧ w.cell? ⟨g,i * 5 + 1,none⟩ = some b ∧ w.cell? ⟨g,i * 5 + 2,none⟩ = some c ∧ w.cell? ⟨g,i * 5 + 3,none⟩ = some d ∧ w.cell? ⟨g,i * 5 + 4,none⟩ = some e:=by
  have hi:i < toks.length:=(List.getElem?_eq_some_iff.1 ht).1
  have k:∀ j,j < 5 → w.cell? ⟨g,i * 5 + j,none⟩ = (tokR t)[j]?:=fun j hj=>by rw [h.cellAt _ (by omega),flat5 toks i t ht j hj]
  rw [hr] at k
  exact ⟨k 0 (by omega),k 1 (by omega),k 2 (by omega),k 3 (by omega),k 4 (by omega)⟩
end Go.Proofs.YtgmholdkdppbmaaGreatDoor.Lx

namespace Go.Proofs.YtgmholdkdppbmaaGreatDoor.Lx
open Go.RowKit
theorem cutA9 {w:World} {B n c k j:Nat} {A:Option Addr} {bs:List UInt8} (h:RB w B A n bs) (hn:n ≤ c) (hk:k + j ≤ n):RB w B (if c = k then A else Option.map (fun x=>x.add k) A) j ((bs.drop k).take j):=by
  have hl:=h.1
  refine ⟨by simp;omega,fun hj=>?_⟩
  rw [if_neg (by omega)]
  obtain ⟨g,o,rfl,hg,hc⟩:=h.2 (by omega)
  refine ⟨g,o + k,?_,hg,fun i hi=>?_⟩
  · show some (Addr.add _ _) = _
    unfold Addr.add
    split <;> simp_all
  · have hi':i < j:=by simp at hi;omega
    rw [Nat.add_assoc,hc (k + i) (by omega)]
    simp
end Go.Proofs.YtgmholdkdppbmaaGreatDoor.Lx

namespace Go.Proofs.YtgmholdkdppbmaaGreatDoor.Lx
open Go.RowKit Go.Extern.Stop Go.Stop Go.Extern Go.Lib
theorem roomy_cells (bs:List UInt8) (n:Nat) (h:bs.length = n):((bs.map bv ++ (zrow (n + 2)).drop n).toArray.setIfInBounds n (.int .u8 49)).setIfInBounds (n + 1) (.int .u8 93) = ((bs ++ [49,93]).map bv).toArray:=by
  subst h
  have e:(zrow (bs.length + 2)).drop bs.length = [bv 0,bv 0]:=by
    unfold zrow
    rw [List.drop_replicate,show bs.length + 2 - bs.length = 2 by omega];rfl
  rw [e]
  simp
theorem roomy_cell (w:World) (g:Nat) (bs:List UInt8) (n:Nat) (h:bs.length = n) (hb:Blk w g 5 (bs.map bv ++ (zrow (n + 2)).drop n).toArray) :
    w.cell? ⟨g,n,none⟩ = some (bv 0) ∧ w.cell? ⟨g,n + 1,none⟩ = some (bv 0):=by
  subst h
  have e:(zrow (bs.length + 2)).drop bs.length = [bv 0,bv 0]:=by
    unfold zrow
    rw [List.drop_replicate,show bs.length + 2 - bs.length = 2 by omega];rfl
  rw [e] at hb
  rw [hb.cell,hb.cell]
  simp [List.getElem_append_right]
def RoomB (w:World) (g:Nat) (bs:List UInt8):Prop:=Blk w g 5 ((bs ++ [49,93]).map bv).toArray
theorem RoomB.holds {w:World} {g n:Nat} {bs:List UInt8} (hb:RoomB w g bs) (h:bs.length = n) :
    RB w (g + 1) (some ⟨g,0,none⟩) n bs ∧ w.cell? ⟨g,n,none⟩ = some (.int .u8 49) ∧ w.cell? ⟨g,n + 1,none⟩ = some (.int .u8 93):=by
  subst h
  refine ⟨⟨rfl,fun hn=>⟨g,0,rfl,by omega,fun j hj=>?_⟩⟩,?_,?_⟩
  · rw [Blk.cell hb,Nat.zero_add]
    simp only [List.getElem?_toArray,List.map_append]
    rw [List.getElem?_append_left (by simpa using hj)]
    simp [hj]
  · rw [Blk.cell hb];simp
  · rw [Blk.cell hb];simp [List.getElem?_append_right]
set_option maxRecDepth 100000 in
theorem roomy_any (A:Option Addr) (n c B:Nat) (bs:List UInt8) (w:World) (h:RB w B A n bs) (hB:B ≤ w.heap.size) (hn:n ≤ 140737488355320) :
    Calls Tryz.prog 26 #[.slice A n c] w fun e w' =>
      e = .returned (.slice (some ⟨w.heap.size,0,none⟩) n (n + 2)) ∧ RoomB w' w.heap.size bs ∧ Below w.heap.size w w':=by
  have hmk:=fun W=>make_bytes n (n + 2) (by omega) (by omega) W
  have hl:=h.1
  have HR:=Lib.hid h
  clear h
  have e2:((n + 2:Nat):Int) = (n:Int) + 2:=by omega
  rw [e2] at hmk
  clear e2
  have HL:=Lib.hid hl
  clear hl
  have hnn:(n:Int) + 2 ≤ 140737488355322:=by omega
  go_enter Tryz.func26,Tryz.ntmps26
  go_wp2_with ((with_reducible refine wpList_copyin (o:=⟨some 13,_,_,_,_,_⟩) rfl (.tmp 11) (.tmp 12) rfl w.heap.size n _ _ A rfl rfl B bs (HR.out.below (((Below.refl _ _).alloc (Nat.le_refl _) _).mono hB)) (zrow (n + 2)) (Blk.new w _ _) (by rw [zrow_length];omega) w.heap.size w ((Below.refl _ _).alloc (Nat.le_refl _) _) (Nat.le_refl _) ?_);intro w1 hb1 hbel1;obtain ⟨cn,cn1⟩:=roomy_cell w1 w.heap.size bs n HL.out hb1.out;have fn:=hb1.out.frozen n;have fn1:=hb1.out.frozen (n + 1);have hs1:=hbel1.size)
  go_ret
  refine ⟨rfl,?_,(hbel1.setCell (p:=⟨w.heap.size,n,none⟩) (Nat.le_refl _) _).setCell (p:=⟨w.heap.size,n + 1,none⟩) (Nat.le_refl _) _⟩
  have:=(hb1.out.set1 n (.int .u8 49)).set1 (n + 1) (.int .u8 93)
  rw [roomy_cells bs n HL.out] at this
  exact this
set_option maxRecDepth 100000 in
theorem left_yes (g n c2 B2:Nat) (A2:Option Addr) (bs:List UInt8) (w:World) (h1:RoomB w g bs) (h2:RB w B2 A2 n bs) (hn:n ≤ 1000000000000) :
    Calls Tryz.prog 27 #[.slice (some ⟨g,0,none⟩) n (n + 2),.slice A2 n c2] w fun e w'=>e = .returned (.bool true) ∧ Below w.heap.size w w':=by
  have hl:=h2.1
  obtain ⟨hrb,cn,cn1⟩:=RoomB.holds h1 hl
  have k1:=str_of_RB hrb (n + 2)
  have k2:=str_of_RB h2 c2
  have hnn:(n:Int) ≤ 1000000000000:=by omega
  clear h1 h2 hrb
  go_enter Tryz.func27,Tryz.ntmps27
  go_wp2_with fail
  go_ret
  exact ⟨rfl,Below.refl _ _⟩
end Go.Proofs.YtgmholdkdppbmaaGreatDoor.Lx

namespace Go.Proofs.YtgmholdkdppbmaaGreatDoor
open Go.RowKit Go.ChangeShapes Go.WideShapes
def PB (w:World) (B:Nat) (a:Option Addr) (len:Nat) (A:Nat → Option Addr) (L C:Nat → Nat) (bs:Nat → List UInt8):Prop :=
  (∀ r,r < len → RB w B (A r) (L r) (bs r) ∧ L r ≤ C r ∧ C r ≤ 140737488351232) ∧
  (0 < len → ∃ g o,a = some ⟨g,o,none⟩ ∧ g < B ∧ ∀ r,r < len → w.cell? ⟨g,o + r,none⟩ = some (.slice (A r) (L r) (C r)))
theorem PB.keep {w w':World} {B:Nat} {a:Option Addr} {len:Nat} {A:Nat → Option Addr} {L C:Nat → Nat} {bs:Nat → List UInt8} (h:PB w B a len A L C bs) (hb:Below B w w'):PB w' B a len A L C bs :=
  ⟨fun r hr=>⟨(h.1 r hr).1.below hb,(h.1 r hr).2⟩,fun hn=>by
    obtain ⟨g,o,ha,hg,hc⟩:=h.2 hn
    exact ⟨g,o,ha,hg,fun r hr=>(hb.cell (p:=⟨g,o + r,none⟩) hg).trans (hc r hr)⟩⟩
theorem mem_weightsAll {H:Type} {P:Program} {e:TypeId} {d:DataW H} {n:Nat} (hn:n ∈ d.weights P e):∀ {l:List (DataW H)},d ∈ l → n ∈ DataW.weightsAll P e l
  | x :: l,h=>by
    simp only [DataW.weightsAll,List.mem_append]
    rcases List.mem_cons.1 h with rfl | h
    · exact .inl hn
    · exact .inr (mem_weightsAll hn h)
def cat (b:Nat → List UInt8) (j:Nat):List UInt8:=(List.range j).flatMap b
theorem cat_zero (b:Nat → List UInt8):cat b 0 = []:=rfl
theorem cat_succ (b:Nat → List UInt8) (j:Nat):cat b (j + 1) = cat b j ++ b j:=by unfold cat;rw [List.range_succ,List.flatMap_append];simp
def tot (b:Nat → List UInt8) (j:Nat):Nat:=(cat b j).length + j
theorem tot_succ (b:Nat → List UInt8) (j:Nat):tot b (j + 1) = tot b j + ((b j).length + 1):=by unfold tot;rw [cat_succ];simp;omega
theorem cat_mono (b:Nat → List UInt8) (i j:Nat) (h:i ≤ j):(cat b i).length ≤ (cat b j).length:=by
  induction j with
  | zero =>
    obtain rfl:i = 0:=by omega
    exact Nat.le_refl _
  | succ j ih =>
    rcases Nat.lt_or_ge i (j + 1) with h1 | h1
    · have:=ih (by omega);rw [cat_succ];simp;omega
    · obtain rfl:i = j + 1:=by omega
      exact Nat.le_refl _
end Go.Proofs.YtgmholdkdppbmaaGreatDoor

namespace Go.Proofs.YtgmholdkdppbmaaGreatDoor
open Go.RowKit Go.ChangeShapes Go.WideShapes Go.Deep
def PO (w:World) (B:Nat) (a:Option Addr) (len:Nat) (K:Nat → Int) (A:Nat → Option Addr) (L C:Nat → Nat) (bs:Nat → List UInt8):Prop :=
  (∀ r,r < len → RB w B (A r) (L r) (bs r) ∧ L r ≤ C r ∧ C r ≤ 140737488351232 ∧ (Lit.int .i64 (K r)).wf = true) ∧
  (0 < len → ∃ g o,a = some ⟨g,o,none⟩ ∧ g < B ∧ ∀ r,r < len → w.cell? ⟨g,o + r * 2,none⟩ = some (.int .i64 (K r)) ∧ w.cell? ⟨g,o + r * 2 + 1,none⟩ = some (.slice (A r) (L r) (C r)))
theorem PO.keep {w w':World} {B:Nat} {a:Option Addr} {len:Nat} {K:Nat → Int} {A:Nat → Option Addr} {L C:Nat → Nat} {bs:Nat → List UInt8} (h:PO w B a len K A L C bs) (hb:Below B w w'):PO w' B a len K A L C bs :=
  ⟨fun r hr=>⟨(h.1 r hr).1.below hb,(h.1 r hr).2⟩,fun hn=>by
    obtain ⟨g,o,ha,hg,hc⟩:=h.2 hn
    exact ⟨g,o,ha,hg,fun r hr=>⟨(hb.cell (p:=⟨g,o + r * 2,none⟩) hg).trans (hc r hr).1,(hb.cell (p:=⟨g,o + r * 2 + 1,none⟩) hg).trans (hc r hr).2⟩⟩⟩
theorem open_ops {H:Type} {enc:TypeId × Value → H} {P:Program} {w:World} {base:Nat} {held:Bool} {t e q:TypeId} {f0 f1:Field} {fuel:Nat} {a:Option Addr} {len cap:Nat} {x:DataW H × List MemPlace}
    (ht:P.underlying t = some (.slice e)) (he:P.underlying e = some (.struct #[f0,f1])) (h0:P.underlying f0.type = some (.int .i64)) (h1:P.underlying f1.type = some (.slice q)) (hq:P.underlying q = some (.int .u8))
    (ce:P.cellsOf e = 2) (o0:f0.offset = 0) (o1:f1.offset = 1) (c0:P.cellsOf f0.type = 1) (c1:P.cellsOf f1.type = 1) (cq:P.cellsOf q = 1) (be:P.bytesOf e = 32) (bq:P.bytesOf q = 1)
    (h:DataW.trod enc P w base (fun _=>true) held fuel t [.slice a len cap] = some x) (hs:(x.1.weights P t).all (· ≤ reachBytes) = true) :
    ∃ K A L C bs,PO w w.heap.size a len K A L C bs ∧ len ≤ 4398046511104:=by
  rcases open_slice_pairs ht he ce o0 o1 c0 c1 h with ⟨hcs,_⟩ | ⟨a',len',cap',m,n,V0,V1,D0,D1,P0,P1,hcs,_,hl,hm,hmm,hx,hr⟩
  · simp at hcs
    obtain ⟨rfl,rfl,rfl⟩:=hcs
    exact ⟨fun _=>0,fun _=>none,fun _=>0,fun _=>0,fun _=>[],⟨fun r hr=>absurd hr (by omega),fun h=>absurd h (by omega)⟩,by omega⟩
  · simp at hcs
    obtain ⟨rfl,rfl,rfl⟩:=hcs
    subst hx
    simp only [if_true] at hmm
    have hmm':=hmm.symm
    subst hmm'
    have hall:=List.all_eq_true.1 hs
    have each:∀ r,r < len → ∃ y:Int × Option Addr × Nat × Nat × List UInt8,V0 r = .int .i64 y.1 ∧ (Lit.int .i64 y.1).wf = true ∧ V1 r = .slice y.2.1 y.2.2.1 y.2.2.2.1 ∧ RB w w.heap.size y.2.1 y.2.2.1 y.2.2.2.2 ∧ y.2.2.1 ≤ y.2.2.2.1 ∧ y.2.2.2.1 ≤ 140737488351232:=by
      intro r hr1
      obtain ⟨e0,e1,g0,g1⟩:=hr r (by omega)
      obtain ⟨k,hk,_,hkw⟩:=DataW.trod_int h0 g0
      rcases open_ints h1 hq cq g1 with ⟨hcs,hy⟩ | ⟨b,l,c,zs,hcs,hb,hl2,hm2,hz,hy,hcell,hwz⟩
      · exact ⟨(k,none,0,0,[]),by simpa using hk,hkw,by simpa using hcs,RB.nil _ _ _,Nat.le_refl _,Nat.zero_le _⟩
      · simp only [if_true] at hz
        simp only [Prod.mk.injEq] at hy
        have hC:c ≤ 140737488351232:=by
          have hw:c ∈ (DataW.agg [D0 r,D1 r]).weights P e:=by
            rw [hy.1]
            simp only [DataW.weights,he,List.map_cons,List.map_nil,DataW.weightsEach,h1,lits,List.length_map,List.length_take,List.length_drop,bq,List.mem_append,List.mem_cons]
            right
            left
            left
            rw [hz]
            omega
          have hd:(DataW.agg [D0 r,D1 r]) ∈ (List.range len).map fun i=>DataW.agg [D0 i,D1 i]:=List.mem_map.2 ⟨r,List.mem_range.2 hr1,rfl⟩
          have:=hall c (by
            simp only [DataW.weights,ht,List.mem_cons,List.mem_append]
            exact .inr (.inl (mem_weightsAll hw hd)))
          have:=of_decide_eq_true this
          unfold reachBytes at this
          omega
        exact ⟨(k,some b,l,c,_),by simpa using hk,hkw,by simpa using hcs,(RB.of_row (A:=some b) (len:=l) (cap:=c) (zs:=zs) (.inr ⟨b,rfl,hl2,hm2,hz,fun i hi=>hcell i hi,hwz⟩)).1,hl2,hC⟩
    obtain ⟨y,hy⟩:=choose_lt each
    refine ⟨fun r=>(y r).1,fun r=>(y r).2.1,fun r=>(y r).2.2.1,fun r=>(y r).2.2.2.1,fun r=>(y r).2.2.2.2,⟨fun r hr1=>⟨(hy r hr1).2.2.2.1,(hy r hr1).2.2.2.2.1,(hy r hr1).2.2.2.2.2,(hy r hr1).2.1⟩,fun hn=>?_⟩,?_⟩
    · obtain ⟨g,o,spot⟩:=a'
      have hcz:=(hr 0 (by omega)).1
      have hsp:spot = none:=by simpa [Addr.add] using World.cell?_spot hcz
      subst hsp
      have hlt:g < w.heap.size:=by have:=World.block_lt_of_cell? w _ hcz;simpa [Addr.add] using this
      have hadd:∀ i,(⟨g,o,none⟩:Addr).add i = ⟨g,o + i,none⟩:=fun i=>by unfold Addr.add;split <;> simp_all
      refine ⟨g,o,rfl,hlt,fun r hr1=>?_⟩
      obtain ⟨e0,e1,_,_⟩:=hr r (by omega)
      rw [hadd] at e0 e1
      exact ⟨by rw [e0,(hy r hr1).1],by rw [Nat.add_assoc,e1,(hy r hr1).2.2.1]⟩
    · have:=hall ((len + (cap - len)) * 32) (by
        simp only [DataW.weights,ht,List.length_map,List.length_range,be]
        exact List.mem_cons_self)
      have:=of_decide_eq_true this
      unfold reachBytes at this
      omega
end Go.Proofs.YtgmholdkdppbmaaGreatDoor

namespace Go.Proofs.YtgmholdkdppbmaaGreatDoor.Lx
open Go.RowKit
abbrev otC (v:Value) (o:Ot):Array Value:=#[v,.int .i64 (o.no:Nat),.int .i64 (o.pos:Nat),.int .i64 (o.found:Nat),.int .i64 (o.held:Nat)]
structure ScF (F:Nat → Prop) (w0 w:World) (h gb:Nat) (s:List UInt8) (en:Bool) (t:Nat) (o:Ot) (v:Value):Prop where
  lx:OneF w0 F w h s en t
  box:Blk w gb 32 (otC v o)
  row:∃ B,w.ownsRow B 60 5 v o.toks.length (o.toks.flatMap tokR)
  fb:F gb
  fr:∀ k,v.ownBlock = some k → F k
  base:w0.heap.size ≤ gb
  bel:Below w0.heap.size w0 w
section
variable {F F':Nat → Prop} {w0 w w':World} {h gb t:Nat} {s:List UInt8} {en:Bool} {o:Ot} {v:Value}
theorem ScF.more (x:ScF F w0 w h gb s en t o v) (hb:Below w.heap.size w w') (hF:∀ j,F' j → F j ∨ (w.heap.size ≤ j ∧ j < w'.heap.size)) (hF2:∀ j,F j → F' j):ScF F' w0 w' h gb s en t o v:=by
  obtain ⟨B,hB⟩:=x.row
  exact ⟨x.lx.more hb hF,x.box.below hb x.box.lt,⟨B,own_below9 hB hb⟩,hF2 _ x.fb,fun k hk=>hF2 _ (x.fr k hk),x.base,x.bel.trans (hb.mono x.bel.size)⟩
theorem ScF.below (x:ScF F w0 w h gb s en t o v) (hb:Below w.heap.size w w'):ScF F w0 w' h gb s en t o v:=x.more hb (fun _ h=>.inl h) (fun _ h=>h)
theorem ScF.less (x:ScF F w0 w h gb s en t o v) (hF:∀ j,F' j → F j) (h1:F' gb) (h2:∀ k,v.ownBlock = some k → F' k):ScF F' w0 w h gb s en t o v :=
  ⟨x.lx.more (Below.refl _ _) (fun j hj=>.inl (hF j hj)),x.box,x.row,h1,h2,x.base,x.bel⟩
theorem ScF.step {s':List UInt8} {en':Bool} {t':Nat} (x:ScF F w0 w h gb s en t o v) (g1:OneF w0 F w' h s' en' t') (g2:Below w0.heap.size w w') (g3:∀ j,F j → w'.heap[j]? = w.heap[j]?):ScF F w0 w' h gb s' en' t' o v:=by
  obtain ⟨B,hB⟩:=x.row
  exact ⟨g1,(g3 gb x.fb).trans x.box,⟨B,own_keep hB (fun k hk=>g3 k (x.fr k hk))⟩,x.fb,x.fr,x.base,x.bel.trans g2⟩
theorem ScF.wrote {g:Nat} (x:ScF F w0 w h gb s en t o v) (hf:Fr (fun j=>j = g) w w') (hg:F g) (h0:w0.heap.size ≤ g) (h1:g ≠ gb) (h2:v.ownBlock ≠ some g):ScF F w0 w' h gb s en t o v:=by
  obtain ⟨B,hB⟩:=x.row
  exact ⟨x.lx.wrote (hf.mono (fun k _ e=>by subst e;exact hg)),hf.blk x.box (fun e=>h1 e.symm),⟨B,own_keep hB (fun k hk=>hf.block k (own_lt hB k hk) (fun e=>h2 (by rw [hk,e])))⟩,x.fb,x.fr,x.base,
    x.bel.trans (hf.toBelow x.bel.size (fun k hk e=>by omega))⟩
theorem ScF.put {w1:World} {v':Value} {o':Ot} (x:ScF F w0 w h gb s en t o v) (hb:Below w.heap.size w w1) (hown:w1.ownsRow w.heap.size 60 5 v' o'.toks.length (o'.toks.flatMap tokR)) :
    ScF (fun j=>j = gb ∨ v'.ownBlock = some j) w0 (set5 w1 gb v' (.int .i64 (o'.no:Nat)) (.int .i64 (o'.pos:Nat)) (.int .i64 (o'.found:Nat)) (.int .i64 (o'.held:Nat))) h gb s en t o' v':=by
  have x1:ScF (fun j=>F j ∨ v'.ownBlock = some j) w0 w1 h gb s en t o v:=x.more hb (fun j hj=>by
    rcases hj with hj | hj
    · exact .inl hj
    · exact .inr (hown.lt j hj)) (fun j hj=>.inl hj)
  have hne:v'.ownBlock ≠ some gb:=fun e=>by have:=(hown.lt gb e).1;have:=x.box.lt;omega
  have hf:Fr (fun j=>j = gb) w1 (set5 w1 gb v' (.int .i64 (o'.no:Nat)) (.int .i64 (o'.pos:Nat)) (.int .i64 (o'.found:Nat)) (.int .i64 (o'.held:Nat))):=by
    unfold set5
    exact (((((Fr.refl (fun j=>j = gb) w1).setCell (p:=⟨gb,0,none⟩) rfl _).setCell (p:=⟨gb,1,none⟩) rfl _).setCell (p:=⟨gb,2,none⟩) rfl _).setCell (p:=⟨gb,3,none⟩) rfl _).setCell (p:=⟨gb,4,none⟩) rfl _
  have l1:=x1.lx.wrote (hf.mono (fun k _ e=>by subst e;exact x1.fb))
  refine ⟨l1.more (Below.refl _ _) (fun j hj=>.inl ?_),set5_blk x1.box _ _ _ _ _,⟨w.heap.size,own_keep hown (fun k hk=>hf.block k (own_lt hown k hk) (fun e=>hne (by rw [hk,e])))⟩,.inl rfl,fun k hk=>.inr hk,x.base,x1.bel.trans (hf.toBelow x1.bel.size (fun k hk e=>by have:=x.base;omega))⟩
  rcases hj with rfl | hj
  · exact x1.fb
  · exact .inr hj
theorem ScF.shape (x:ScF F w0 w h gb s en t o v):∃ A c,v = .slice A o.toks.length c:=by
  obtain ⟨B,hB⟩:=x.row
  obtain ⟨A,c,e,_⟩:=own_shape9 hB
  exact ⟨A,c,e⟩
theorem sc_next (x:ScF F w0 w h gb s en t o v) (tk:Tok) (ht:(refO s en).toks[t]? = some tk) :
    Calls Tryz.prog 15 #[.pointer (some ⟨h,0,none⟩)] w fun e w'=>e = .returned (.tuple #[tokV tk,.bool true]) ∧ ScF F w0 w' h gb s en (t + 1) o v ∧ ∀ j,F j → w'.heap[j]? = w.heap[j]?:=by
  refine (onef_next x.lx tk ht).mono ?_
  rintro e w' ⟨rfl,g1,g2,g3⟩
  exact ⟨rfl,x.step g1 g2 g3,g3⟩
theorem sc_last (x:ScF F w0 w h gb s en t o v) (hk:(refO s en).toks.length ≤ t) :
    Calls Tryz.prog 15 #[.pointer (some ⟨h,0,none⟩)] w fun e w'=>e = .returned (.tuple #[.nilIface,.bool false]) ∧ w = w':=one_last x.lx.one hk
theorem sc_end (x:ScF F w0 w h gb s false t o v) :
    Calls Tryz.prog 18 #[.pointer (some ⟨h,0,none⟩)] w fun e w'=>e = .returned (errV (refO s true).no (refO s true).pos) ∧ ScF F w0 w' h gb s true t o v ∧ ∀ j,F j → w'.heap[j]? = w.heap[j]?:=by
  refine (onef_end x.lx).mono ?_
  rintro e w' ⟨rfl,g1,g2,g3⟩
  exact ⟨rfl,x.step g1 g2 g3,g3⟩
theorem sc_feed {g:Nat} (x:ScF F w0 w h gb s false t o v) (hg:F g) (n c B:Nat) (bs:List UInt8) (hr:RB w B (some ⟨g,0,none⟩) n bs) (hB:B ≤ w.heap.size) (hn:n ≤ 1000000000000) :
    Calls Tryz.prog 17 #[.pointer (some ⟨h,0,none⟩),.slice (some ⟨g,0,none⟩) n c] w fun e w' =>
      e = .returned (errV (refO (s ++ bs) false).no (refO (s ++ bs) false).pos) ∧ ScF F w0 w' h gb (s ++ bs) false t o v ∧ ∀ j,F j → w'.heap[j]? = w.heap[j]?:=by
  refine (one_feed x.lx hg n c B bs hr hB hn).mono ?_
  rintro e w' ⟨rfl,g1,g2,g3⟩
  exact ⟨rfl,x.step g1 g2 g3,g3⟩
end
end Go.Proofs.YtgmholdkdppbmaaGreatDoor.Lx
