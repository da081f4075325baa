/-
  Texts of the proof of 'LexG': LexRH, LexRI, LexRJ, LexRK, LexRL, LexRM, LexZE.
-/
import Derived.Test.YtgmholdkdppbmaaGreatDoorLexGAH
import Derived.Test.YtgmholdkdppbmaaGreatDoorLexGAJ
import Derived.Deep.QuietTactic
import Derived.BigQuiet
import Derived.LaidEql
import Derived.Stop.Asserts
import Derived.RowKitTokens
import Derived.Lib.IfaceEq
set_option linter.unusedVariables false
set_option linter.unusedSimpArgs false
namespace Go.Proofs.YtgmholdkdppbmaaGreatDoor.Lx
open Go.RowKit Go.Shelf
attribute [local go_sem ↓] Go.wp_at_zero Go.wp_at_succ
set_option maxRecDepth 1000000 in
set_option maxHeartbeats 8000000 in
theorem case_text_cut (s:List UInt8) (en:Bool) (w0 wr:World) (p:Nat) (toks:List Tok) (v:Value) (Uh Ui Uj Uk Ul Um Un Uo Up Uq Ur Us Ut Uu Uv Uw Ux Uy Uz UA UB UC UD UE UF UG UH UI UJ UK UL UM UN UO UP UQ UR US UT UU UV UW UX UY UZ U0 U1 U2 U3 U4 U5 U6 U7 U8 U9 Va Vb Vc Vd Ve Vf Vg Vh Vi Vj Vk Vl Vm Vn Vo Vp Vq Vr Vs Vt Vu Vv Vw Vx Vy Vz VA VB VC VD VE VF VG VH VI VJ VK VL VM VN VO VP VQ VR VS VT VU VV VW VX VY VZ V0 V1 V2 V3 V4 V5 V6 V7 V8 V9 Wa Wb Wc Wd We Wf Wg Wh Wi Wj Wk Wl Wm Wn Wo Wp Wq Wr Ws Wt Wu Wv Ww Wx Wy Wz WA WB WC WD WE WF WG WH WI WJ WK WL WM WN WO WP WQ WR WS WT WU WV WW WX WY WZ W0 W1 W2 W3 W4 W5 W6 W7 W8 W9 Xa Xb Xc Xd Xe Xf Xg Xh Xi Xj Xk Xl Xm Xn Xo Xp Xq Xr Xs Xt Xu Xv Xw Xx Xy Xz XA XB XC XD XE XF XG XH XI XJ:Value) (Q0:Exit → Act → World → Prop) (hs:s.length ≤ 1000000000000) (hp:p < s.length) (hr:R9 s en w0 p toks v wr)
    (hb:blankB (s.getD p 0) = false) (hm:markB (s.getD p 0) = false) (hw:wordOf (s.getD p 0) = []) (hq:s.getD p 0 = 34) (hT:txtF s (p + 1) [] = .cut) (hQ:∀ x a w',RD9 s en w0 x a w' → Q0 x a w'):Code.wp Tryz.prog body9 (Exit.then (fun a' w''=>WI9 s en w0 (fun _=>True) a' w'' ∧ mu9 s a' < mu9 s ⟨#[.string ⟨s.toArray⟩,.bool en,undef,undef,.pointer (some ⟨w0.heap.size,0,none⟩),.pointer (some ⟨w0.heap.size + 1,0,none⟩),.int .i64 (p:Nat),Uh,Ui,Uj,Uk,Ul,Um,Un,Uo,Up,Uq,Ur,Us,Ut,Uu,Uv,Uw,Ux,Uy,Uz,UA,UB,UC,UD,UE,UF,UG,UH,UI,UJ,UK,UL,UM,UN,UO,UP,UQ,UR,US,UT,UU,UV,UW,UX,UY,UZ,U0,U1,U2,U3,U4,U5,U6,U7,U8,U9,Va,Vb,Vc,Vd,Ve,Vf,Vg,Vh,Vi,Vj,Vk,Vl,Vm,Vn,Vo,Vp,Vq,Vr,Vs,Vt,Vu,Vv,Vw,Vx,Vy,Vz,VA,VB,VC,VD,VE,VF,VG,VH,VI,VJ,VK,VL,VM,VN,VO,VP,VQ,VR,VS,VT,VU,VV,VW,VX,VY,VZ,V0,V1,V2,V3,V4,V5,V6,V7,V8,V9,Wa,Wb,Wc,Wd,We,Wf,Wg,Wh,Wi,Wj,Wk,Wl,Wm,Wn,Wo,Wp,Wq,Wr,Ws,Wt,Wu,Wv,Ww,Wx,Wy,Wz,WA,WB,WC,WD,WE,WF,WG,WH,WI,WJ,WK,WL,WM,WN,WO,WP,WQ,WR,WS,WT,WU,WV,WW,WX,WY,WZ,W0,W1,W2,W3,W4,W5,W6,W7,W8,W9,Xa,Xb,Xc,Xd,Xe,Xf,Xg,Xh,Xi,Xj,Xk,Xl,Xm,Xn,Xo,Xp,Xq,Xr,Xs,Xt,Xu,Xv,Xw,Xx,Xy,Xz,XA,XB,XC,XD,XE,XF,XG,XH,XI,XJ,undef],[]⟩) Q0) ⟨#[.string ⟨s.toArray⟩,.bool en,undef,undef,.pointer (some ⟨w0.heap.size,0,none⟩),.pointer (some ⟨w0.heap.size + 1,0,none⟩),.int .i64 (p:Nat),Uh,Ui,Uj,Uk,Ul,Um,Un,Uo,Up,Uq,Ur,Us,Ut,Uu,Uv,Uw,Ux,Uy,Uz,UA,UB,UC,UD,UE,UF,UG,UH,UI,UJ,UK,UL,UM,UN,UO,UP,UQ,UR,US,UT,UU,UV,UW,UX,UY,UZ,U0,U1,U2,U3,U4,U5,U6,U7,U8,U9,Va,Vb,Vc,Vd,Ve,Vf,Vg,Vh,Vi,Vj,Vk,Vl,Vm,Vn,Vo,Vp,Vq,Vr,Vs,Vt,Vu,Vv,Vw,Vx,Vy,Vz,VA,VB,VC,VD,VE,VF,VG,VH,VI,VJ,VK,VL,VM,VN,VO,VP,VQ,VR,VS,VT,VU,VV,VW,VX,VY,VZ,V0,V1,V2,V3,V4,V5,V6,V7,V8,V9,Wa,Wb,Wc,Wd,We,Wf,Wg,Wh,Wi,Wj,Wk,Wl,Wm,Wn,Wo,Wp,Wq,Wr,Ws,Wt,Wu,Wv,Ww,Wx,Wy,Wz,WA,WB,WC,WD,WE,WF,WG,WH,WI,WJ,WK,WL,WM,WN,WO,WP,WQ,WR,WS,WT,WU,WV,WW,WX,WY,WZ,W0,W1,W2,W3,W4,W5,W6,W7,W8,W9,Xa,Xb,Xc,Xd,Xe,Xf,Xg,Xh,Xi,Xj,Xk,Xl,Xm,Xn,Xo,Xp,Xq,Xr,Xs,Xt,Xu,Xv,Xw,Xx,Xy,Xz,XA,XB,XC,XD,XE,XF,XG,XH,XI,XJ,undef],[]⟩ wr:=by
  conv=>arg 2;whnf
  obtain ⟨c,hc⟩:∃ c,s[p] = c:=⟨_,rfl⟩
  have hget:=get_c s p c hp hc
  have hpI:(p:Int) < (s.length:Int):=by omega
  have hgd:s.getD p 0 = c:=by rw [getD_at hp,hc]
  have d0:decide (p < s.length) = true:=decide_eq_true hp
  have d1:decide ((p:Int) < (s.length:Int)) = true:=decide_eq_true hpI
  have HP:=Lib.hid hp
  have HQ0:=Lib.hid hQ
  clear hQ
  have hit:item flP s en p = .cut:=by unfold item;rw [if_neg (by rw [hb];simp),if_neg (by rw [hm];simp),if_neg (by rw [hw];simp),if_pos hq];unfold txtI;rw [hT]
  rw [hgd] at hb hm hw hq
  have HBL:=Lib.hid (fun W=>rblank_any c W)
  rw [hb] at HBL
  have HMK:=Lib.hid (fun W=>rmark_no c W hm)
  have HNM:=Lib.hid (fun W=>rname_any c W)
  rw [hw] at HNM
  have q34:((c.toNat:Int) == 34) = true:=by rw [hq];rfl
  have HR:=Lib.hid hr
  have hsl:=hr.2.2.2.2.1.lt
  have hsz:=hr.2.2.2.2.2.2.size
  obtain ⟨A,cc,rfl,_⟩:=own_shape9 hr.2.2.2.1
  have hTL:toks.length ≤ s.length:=by have:=hr.2.2.1;omega
  have HTL:=Lib.hid (show toks.length ≤ 1000000000000 by omega)
  have hcut:=rdF_cut hp hit
  have HCY:=Lib.hid (fun W=>rcut_yes (.slice A toks.length cc) (.int .i64 0) (.int .i64 0) (.int .i64 0) (.int .i64 0) s p W ⟨A,_,cc,rfl⟩ hs)
  have HCN:=Lib.hid (fun W=>rcut_no (.slice A toks.length cc) s p W ⟨A,_,cc,rfl⟩ hs (by omega))
  have HTX:=Lib.hid (fun W=>rtext_any s p W hp hs)
  have htv:txV (txtF s (p + 1) []) = .tuple #[.string ⟨#[]⟩,.int .i64 0,.agg #[.string ⟨#[]⟩,.int .i64 0,.int .i64 0,.int .i64 0,.bool true]]:=by rw [hT];rfl
  rw [htv] at HTX
  have HCUT:=Lib.hid hcut
  clear hit hb hm hgd hc hs hr hw hq hT htv hcut
  go_wp2_with fail
  refine (HBL.out _).mono ?_
  rintro e w1 ⟨rfl,rfl⟩
  go_wp2_with fail
  refine (HMK.out _).mono ?_
  rintro e w1 ⟨rfl,rfl⟩
  go_wp2_with fail
  refine (HNM.out _).mono ?_
  rintro e w1 ⟨rfl,rfl⟩
  go_wp2_with fail
  refine (HTX.out _).mono ?_
  rintro e w1 ⟨rfl,hb1⟩
  have hbW:=hb1.alloc hb1.size (.cells #[.string ⟨#[]⟩,.int .i64 0,.int .i64 0,.int .i64 0,.bool true] 105)
  obtain ⟨t0,t1,t2,t3,t4⟩:=cells5 (Blk.new w1 105 #[.string ⟨#[]⟩,.int .i64 0,.int .i64 0,.int .i64 0,.bool true])
  have HBW:=Lib.hid hbW
  have hle1:=hb1.size
  clear hb1 hbW
  cases en
  · have HRD:Hid (rdF flP s false p = ⟨[],0,0,0,s.length - p⟩):=Lib.hid (by rw [HCUT.out];rfl)
    obtain ⟨⟨m0,m1,m2,m3,m4⟩,⟨n0,n1,n2,n3,n4⟩,⟨f0,f1,f2,f3,f4⟩,⟨g0,g1,g2,g3,g4⟩⟩:=r9_cells HR.out HBW.out
    go_wp2_with fail
    clear m0 m1 m2 m3 m4 n0 n1 n2 n3 n4 f0 f1 f2 f3 f4 g0 g1 g2 g3 g4 t0 t1 t2 t3 t4
    refine (HCN.out _).mono ?_
    rintro e w2 ⟨rfl,hb2⟩
    have hbX:=keepb HBW.out hb2
    obtain ⟨⟨m0,m1,m2,m3,m4⟩,⟨n0,n1,n2,n3,n4⟩,⟨f0,f1,f2,f3,f4⟩,⟨g0,g1,g2,g3,g4⟩⟩:=r9_cells HR.out hbX
    go_wp2_with fail
    exact HQ0.out _ _ _ (.inl ⟨rfl,rfl,rfl,r9_ret HR.out hbX HRD.out⟩)
  · have HRD:Hid (rdF flP s true p = ⟨[],95,s.length,s.length,0⟩):=Lib.hid (by rw [HCUT.out];rfl)
    obtain ⟨⟨m0,m1,m2,m3,m4⟩,⟨n0,n1,n2,n3,n4⟩,⟨f0,f1,f2,f3,f4⟩,⟨g0,g1,g2,g3,g4⟩⟩:=r9_cells HR.out HBW.out
    go_wp2_with fail
    clear m0 m1 m2 m3 m4 n0 n1 n2 n3 n4 f0 f1 f2 f3 f4 g0 g1 g2 g3 g4 t0 t1 t2 t3 t4
    refine (HCY.out _).mono ?_
    rintro e w2 ⟨rfl,hb2⟩
    have hbX:=keepb HBW.out hb2
    obtain ⟨⟨m0,m1,m2,m3,m4⟩,⟨n0,n1,n2,n3,n4⟩,⟨f0,f1,f2,f3,f4⟩,⟨g0,g1,g2,g3,g4⟩⟩:=r9_cells HR.out hbX
    go_wp2_with fail
    exact HQ0.out _ _ _ (.inl ⟨rfl,rfl,rfl,r9_ret HR.out hbX HRD.out⟩)
set_option maxRecDepth 1000000 in
set_option maxHeartbeats 8000000 in
theorem case_text_bad (s:List UInt8) (en:Bool) (w0 wr:World) (p:Nat) (toks:List Tok) (v:Value) (Uh Ui Uj Uk Ul Um Un Uo Up Uq Ur Us Ut Uu Uv Uw Ux Uy Uz UA UB UC UD UE UF UG UH UI UJ UK UL UM UN UO UP UQ UR US UT UU UV UW UX UY UZ U0 U1 U2 U3 U4 U5 U6 U7 U8 U9 Va Vb Vc Vd Ve Vf Vg Vh Vi Vj Vk Vl Vm Vn Vo Vp Vq Vr Vs Vt Vu Vv Vw Vx Vy Vz VA VB VC VD VE VF VG VH VI VJ VK VL VM VN VO VP VQ VR VS VT VU VV VW VX VY VZ V0 V1 V2 V3 V4 V5 V6 V7 V8 V9 Wa Wb Wc Wd We Wf Wg Wh Wi Wj Wk Wl Wm Wn Wo Wp Wq Wr Ws Wt Wu Wv Ww Wx Wy Wz WA WB WC WD WE WF WG WH WI WJ WK WL WM WN WO WP WQ WR WS WT WU WV WW WX WY WZ W0 W1 W2 W3 W4 W5 W6 W7 W8 W9 Xa Xb Xc Xd Xe Xf Xg Xh Xi Xj Xk Xl Xm Xn Xo Xp Xq Xr Xs Xt Xu Xv Xw Xx Xy Xz XA XB XC XD XE XF XG XH XI XJ:Value) (Q0:Exit → Act → World → Prop) (hs:s.length ≤ 1000000000000) (hp:p < s.length) (hr:R9 s en w0 p toks v wr)
    (no q:Nat) (hb:blankB (s.getD p 0) = false) (hm:markB (s.getD p 0) = false) (hw:wordOf (s.getD p 0) = []) (hq:s.getD p 0 = 34) (hT:txtF s (p + 1) [] = .bad no q) (hQ:∀ x a w',RD9 s en w0 x a w' → Q0 x a w'):Code.wp Tryz.prog body9 (Exit.then (fun a' w''=>WI9 s en w0 (fun _=>True) a' w'' ∧ mu9 s a' < mu9 s ⟨#[.string ⟨s.toArray⟩,.bool en,undef,undef,.pointer (some ⟨w0.heap.size,0,none⟩),.pointer (some ⟨w0.heap.size + 1,0,none⟩),.int .i64 (p:Nat),Uh,Ui,Uj,Uk,Ul,Um,Un,Uo,Up,Uq,Ur,Us,Ut,Uu,Uv,Uw,Ux,Uy,Uz,UA,UB,UC,UD,UE,UF,UG,UH,UI,UJ,UK,UL,UM,UN,UO,UP,UQ,UR,US,UT,UU,UV,UW,UX,UY,UZ,U0,U1,U2,U3,U4,U5,U6,U7,U8,U9,Va,Vb,Vc,Vd,Ve,Vf,Vg,Vh,Vi,Vj,Vk,Vl,Vm,Vn,Vo,Vp,Vq,Vr,Vs,Vt,Vu,Vv,Vw,Vx,Vy,Vz,VA,VB,VC,VD,VE,VF,VG,VH,VI,VJ,VK,VL,VM,VN,VO,VP,VQ,VR,VS,VT,VU,VV,VW,VX,VY,VZ,V0,V1,V2,V3,V4,V5,V6,V7,V8,V9,Wa,Wb,Wc,Wd,We,Wf,Wg,Wh,Wi,Wj,Wk,Wl,Wm,Wn,Wo,Wp,Wq,Wr,Ws,Wt,Wu,Wv,Ww,Wx,Wy,Wz,WA,WB,WC,WD,WE,WF,WG,WH,WI,WJ,WK,WL,WM,WN,WO,WP,WQ,WR,WS,WT,WU,WV,WW,WX,WY,WZ,W0,W1,W2,W3,W4,W5,W6,W7,W8,W9,Xa,Xb,Xc,Xd,Xe,Xf,Xg,Xh,Xi,Xj,Xk,Xl,Xm,Xn,Xo,Xp,Xq,Xr,Xs,Xt,Xu,Xv,Xw,Xx,Xy,Xz,XA,XB,XC,XD,XE,XF,XG,XH,XI,XJ,undef],[]⟩) Q0) ⟨#[.string ⟨s.toArray⟩,.bool en,undef,undef,.pointer (some ⟨w0.heap.size,0,none⟩),.pointer (some ⟨w0.heap.size + 1,0,none⟩),.int .i64 (p:Nat),Uh,Ui,Uj,Uk,Ul,Um,Un,Uo,Up,Uq,Ur,Us,Ut,Uu,Uv,Uw,Ux,Uy,Uz,UA,UB,UC,UD,UE,UF,UG,UH,UI,UJ,UK,UL,UM,UN,UO,UP,UQ,UR,US,UT,UU,UV,UW,UX,UY,UZ,U0,U1,U2,U3,U4,U5,U6,U7,U8,U9,Va,Vb,Vc,Vd,Ve,Vf,Vg,Vh,Vi,Vj,Vk,Vl,Vm,Vn,Vo,Vp,Vq,Vr,Vs,Vt,Vu,Vv,Vw,Vx,Vy,Vz,VA,VB,VC,VD,VE,VF,VG,VH,VI,VJ,VK,VL,VM,VN,VO,VP,VQ,VR,VS,VT,VU,VV,VW,VX,VY,VZ,V0,V1,V2,V3,V4,V5,V6,V7,V8,V9,Wa,Wb,Wc,Wd,We,Wf,Wg,Wh,Wi,Wj,Wk,Wl,Wm,Wn,Wo,Wp,Wq,Wr,Ws,Wt,Wu,Wv,Ww,Wx,Wy,Wz,WA,WB,WC,WD,WE,WF,WG,WH,WI,WJ,WK,WL,WM,WN,WO,WP,WQ,WR,WS,WT,WU,WV,WW,WX,WY,WZ,W0,W1,W2,W3,W4,W5,W6,W7,W8,W9,Xa,Xb,Xc,Xd,Xe,Xf,Xg,Xh,Xi,Xj,Xk,Xl,Xm,Xn,Xo,Xp,Xq,Xr,Xs,Xt,Xu,Xv,Xw,Xx,Xy,Xz,XA,XB,XC,XD,XE,XF,XG,XH,XI,XJ,undef],[]⟩ wr:=by
  conv=>arg 2;whnf
  obtain ⟨c,hc⟩:∃ c,s[p] = c:=⟨_,rfl⟩
  have hget:=get_c s p c hp hc
  have hpI:(p:Int) < (s.length:Int):=by omega
  have hgd:s.getD p 0 = c:=by rw [getD_at hp,hc]
  have d0:decide (p < s.length) = true:=decide_eq_true hp
  have d1:decide ((p:Int) < (s.length:Int)) = true:=decide_eq_true hpI
  have HP:=Lib.hid hp
  have HQ0:=Lib.hid hQ
  clear hQ
  have hit:item flP s en p = .bad no q q:=by unfold item;rw [if_neg (by rw [hb];simp),if_neg (by rw [hm];simp),if_neg (by rw [hw];simp),if_pos hq];unfold txtI;rw [hT]
  rw [hgd] at hb hm hw hq
  have HBL:=Lib.hid (fun W=>rblank_any c W)
  rw [hb] at HBL
  have HMK:=Lib.hid (fun W=>rmark_no c W hm)
  have HNM:=Lib.hid (fun W=>rname_any c W)
  rw [hw] at HNM
  have q34:((c.toNat:Int) == 34) = true:=by rw [hq];rfl
  have HR:=Lib.hid hr
  have hsl:=hr.2.2.2.2.1.lt
  have hsz:=hr.2.2.2.2.2.2.size
  obtain ⟨A,cc,rfl,_⟩:=own_shape9 hr.2.2.2.1
  have hTL:toks.length ≤ s.length:=by have:=hr.2.2.1;omega
  have HTL:=Lib.hid (show toks.length ≤ 1000000000000 by omega)
  have HRD:=Lib.hid (rdF_bad hp hit)
  have HWR:=Lib.hid (fun W=>rwrong9 (.slice A toks.length cc) (.int .i64 0) (.int .i64 0) (.int .i64 0) (.int .i64 0) no q W ⟨A,_,cc,rfl⟩)
  have hno:=txtF_no s (p + 1) [] no q hT
  have e3:((no:Int) != 0) = true:=by rw [bne_iff_ne];omega
  have HTX:=Lib.hid (fun W=>rtext_any s p W hp hs)
  have htv:txV (txtF s (p + 1) []) = .tuple #[.string ⟨#[]⟩,.int .i64 0,.agg #[.string ⟨#[]⟩,.int .i64 0,.int .i64 (no:Nat),.int .i64 (q:Nat),.bool false]]:=by rw [hT];rfl
  rw [htv] at HTX
  clear hit hb hm hgd hc hs hr hw hq hT htv hno
  go_wp2_with fail
  refine (HBL.out _).mono ?_
  rintro e w1 ⟨rfl,rfl⟩
  go_wp2_with fail
  refine (HMK.out _).mono ?_
  rintro e w1 ⟨rfl,rfl⟩
  go_wp2_with fail
  refine (HNM.out _).mono ?_
  rintro e w1 ⟨rfl,rfl⟩
  go_wp2_with fail
  refine (HTX.out _).mono ?_
  rintro e w1 ⟨rfl,hb1⟩
  have hbW:=hb1.alloc hb1.size (.cells #[.string ⟨#[]⟩,.int .i64 0,.int .i64 (no:Nat),.int .i64 (q:Nat),.bool false] 105)
  obtain ⟨t0,t1,t2,t3,t4⟩:=cells5 (Blk.new w1 105 #[.string ⟨#[]⟩,.int .i64 0,.int .i64 (no:Nat),.int .i64 (q:Nat),.bool false])
  have HBW:=Lib.hid hbW
  have hle1:=hb1.size
  clear hb1 hbW
  obtain ⟨⟨m0,m1,m2,m3,m4⟩,⟨n0,n1,n2,n3,n4⟩,⟨f0,f1,f2,f3,f4⟩,⟨g0,g1,g2,g3,g4⟩⟩:=r9_cells HR.out HBW.out
  go_wp2_with fail
  clear m0 m1 m2 m3 m4 n0 n1 n2 n3 n4 f0 f1 f2 f3 f4 g0 g1 g2 g3 g4 t0 t1 t2 t3 t4
  refine (HWR.out _).mono ?_
  rintro e w2 ⟨rfl,hb2⟩
  have hbX:=keepb HBW.out hb2
  obtain ⟨⟨m0,m1,m2,m3,m4⟩,⟨n0,n1,n2,n3,n4⟩,⟨f0,f1,f2,f3,f4⟩,⟨g0,g1,g2,g3,g4⟩⟩:=r9_cells HR.out hbX
  go_wp2_with fail
  exact HQ0.out _ _ _ (.inl ⟨rfl,rfl,rfl,r9_ret HR.out hbX HRD.out⟩)
set_option maxRecDepth 1000000 in
set_option maxHeartbeats 8000000 in
theorem case_text_ok (s:List UInt8) (en:Bool) (w0 wr:World) (p:Nat) (toks:List Tok) (v:Value) (Uh Ui Uj Uk Ul Um Un Uo Up Uq Ur Us Ut Uu Uv Uw Ux Uy Uz UA UB UC UD UE UF UG UH UI UJ UK UL UM UN UO UP UQ UR US UT UU UV UW UX UY UZ U0 U1 U2 U3 U4 U5 U6 U7 U8 U9 Va Vb Vc Vd Ve Vf Vg Vh Vi Vj Vk Vl Vm Vn Vo Vp Vq Vr Vs Vt Vu Vv Vw Vx Vy Vz VA VB VC VD VE VF VG VH VI VJ VK VL VM VN VO VP VQ VR VS VT VU VV VW VX VY VZ V0 V1 V2 V3 V4 V5 V6 V7 V8 V9 Wa Wb Wc Wd We Wf Wg Wh Wi Wj Wk Wl Wm Wn Wo Wp Wq Wr Ws Wt Wu Wv Ww Wx Wy Wz WA WB WC WD WE WF WG WH WI WJ WK WL WM WN WO WP WQ WR WS WT WU WV WW WX WY WZ W0 W1 W2 W3 W4 W5 W6 W7 W8 W9 Xa Xb Xc Xd Xe Xf Xg Xh Xi Xj Xk Xl Xm Xn Xo Xp Xq Xr Xs Xt Xu Xv Xw Xx Xy Xz XA XB XC XD XE XF XG XH XI XJ:Value) (Q0:Exit → Act → World → Prop) (hs:s.length ≤ 1000000000000) (hp:p < s.length) (hr:R9 s en w0 p toks v wr)
    (sy:List UInt8) (q:Nat) (hb:blankB (s.getD p 0) = false) (hm:markB (s.getD p 0) = false) (hw:wordOf (s.getD p 0) = []) (hq:s.getD p 0 = 34) (hT:txtF s (p + 1) [] = .ok sy q) (hQ:∀ x a w',RD9 s en w0 x a w' → Q0 x a w'):Code.wp Tryz.prog body9 (Exit.then (fun a' w''=>WI9 s en w0 (fun _=>True) a' w'' ∧ mu9 s a' < mu9 s ⟨#[.string ⟨s.toArray⟩,.bool en,undef,undef,.pointer (some ⟨w0.heap.size,0,none⟩),.pointer (some ⟨w0.heap.size + 1,0,none⟩),.int .i64 (p:Nat),Uh,Ui,Uj,Uk,Ul,Um,Un,Uo,Up,Uq,Ur,Us,Ut,Uu,Uv,Uw,Ux,Uy,Uz,UA,UB,UC,UD,UE,UF,UG,UH,UI,UJ,UK,UL,UM,UN,UO,UP,UQ,UR,US,UT,UU,UV,UW,UX,UY,UZ,U0,U1,U2,U3,U4,U5,U6,U7,U8,U9,Va,Vb,Vc,Vd,Ve,Vf,Vg,Vh,Vi,Vj,Vk,Vl,Vm,Vn,Vo,Vp,Vq,Vr,Vs,Vt,Vu,Vv,Vw,Vx,Vy,Vz,VA,VB,VC,VD,VE,VF,VG,VH,VI,VJ,VK,VL,VM,VN,VO,VP,VQ,VR,VS,VT,VU,VV,VW,VX,VY,VZ,V0,V1,V2,V3,V4,V5,V6,V7,V8,V9,Wa,Wb,Wc,Wd,We,Wf,Wg,Wh,Wi,Wj,Wk,Wl,Wm,Wn,Wo,Wp,Wq,Wr,Ws,Wt,Wu,Wv,Ww,Wx,Wy,Wz,WA,WB,WC,WD,WE,WF,WG,WH,WI,WJ,WK,WL,WM,WN,WO,WP,WQ,WR,WS,WT,WU,WV,WW,WX,WY,WZ,W0,W1,W2,W3,W4,W5,W6,W7,W8,W9,Xa,Xb,Xc,Xd,Xe,Xf,Xg,Xh,Xi,Xj,Xk,Xl,Xm,Xn,Xo,Xp,Xq,Xr,Xs,Xt,Xu,Xv,Xw,Xx,Xy,Xz,XA,XB,XC,XD,XE,XF,XG,XH,XI,XJ,undef],[]⟩) Q0) ⟨#[.string ⟨s.toArray⟩,.bool en,undef,undef,.pointer (some ⟨w0.heap.size,0,none⟩),.pointer (some ⟨w0.heap.size + 1,0,none⟩),.int .i64 (p:Nat),Uh,Ui,Uj,Uk,Ul,Um,Un,Uo,Up,Uq,Ur,Us,Ut,Uu,Uv,Uw,Ux,Uy,Uz,UA,UB,UC,UD,UE,UF,UG,UH,UI,UJ,UK,UL,UM,UN,UO,UP,UQ,UR,US,UT,UU,UV,UW,UX,UY,UZ,U0,U1,U2,U3,U4,U5,U6,U7,U8,U9,Va,Vb,Vc,Vd,Ve,Vf,Vg,Vh,Vi,Vj,Vk,Vl,Vm,Vn,Vo,Vp,Vq,Vr,Vs,Vt,Vu,Vv,Vw,Vx,Vy,Vz,VA,VB,VC,VD,VE,VF,VG,VH,VI,VJ,VK,VL,VM,VN,VO,VP,VQ,VR,VS,VT,VU,VV,VW,VX,VY,VZ,V0,V1,V2,V3,V4,V5,V6,V7,V8,V9,Wa,Wb,Wc,Wd,We,Wf,Wg,Wh,Wi,Wj,Wk,Wl,Wm,Wn,Wo,Wp,Wq,Wr,Ws,Wt,Wu,Wv,Ww,Wx,Wy,Wz,WA,WB,WC,WD,WE,WF,WG,WH,WI,WJ,WK,WL,WM,WN,WO,WP,WQ,WR,WS,WT,WU,WV,WW,WX,WY,WZ,W0,W1,W2,W3,W4,W5,W6,W7,W8,W9,Xa,Xb,Xc,Xd,Xe,Xf,Xg,Xh,Xi,Xj,Xk,Xl,Xm,Xn,Xo,Xp,Xq,Xr,Xs,Xt,Xu,Xv,Xw,Xx,Xy,Xz,XA,XB,XC,XD,XE,XF,XG,XH,XI,XJ,undef],[]⟩ wr:=by
  conv=>arg 2;whnf
  obtain ⟨c,hc⟩:∃ c,s[p] = c:=⟨_,rfl⟩
  have hget:=get_c s p c hp hc
  have hpI:(p:Int) < (s.length:Int):=by omega
  have hgd:s.getD p 0 = c:=by rw [getD_at hp,hc]
  have d0:decide (p < s.length) = true:=decide_eq_true hp
  have d1:decide ((p:Int) < (s.length:Int)) = true:=decide_eq_true hpI
  have HP:=Lib.hid hp
  have HQ0:=Lib.hid hQ
  clear hQ
  have hit:item flP s en p = .tok ⟨p,q - p,.str sy⟩ q:=by unfold item;rw [if_neg (by rw [hb];simp),if_neg (by rw [hm];simp),if_neg (by rw [hw];simp),if_pos hq];unfold txtI;rw [hT]
  rw [hgd] at hb hm hw hq
  have HBL:=Lib.hid (fun W=>rblank_any c W)
  rw [hb] at HBL
  have HMK:=Lib.hid (fun W=>rmark_no c W hm)
  have HNM:=Lib.hid (fun W=>rname_any c W)
  rw [hw] at HNM
  have q34:((c.toNat:Int) == 34) = true:=by rw [hq];rfl
  have HR:=Lib.hid hr
  have hsl:=hr.2.2.2.2.1.lt
  have hsz:=hr.2.2.2.2.2.2.size
  obtain ⟨A,cc,rfl,_⟩:=own_shape9 hr.2.2.2.1
  have hTL:toks.length ≤ s.length:=by have:=hr.2.2.1;omega
  have HTL:=Lib.hid (show toks.length ≤ 1000000000000 by omega)
  obtain ⟨hpq,hqs,_⟩:=(run_txt flP 0 s (p + 1) [] (by omega)).2.2 sy q hT
  obtain ⟨z,hz⟩:∃ z,q - p = z:=⟨_,rfl⟩
  rw [hz] at hit
  have HRD:=Lib.hid (rdF_tok hp hit (by omega))
  have hqI:(q:Int) - (p:Int) = (z:Int):=by omega
  have hwz:IntKind.i64.wrap (z:Int) = (z:Int):=IntWalk.i64_in _ (by omega)
  have HPQ:=Lib.hid (show p < q by omega)
  have HQS:=Lib.hid hqs
  have HSZ:=Lib.hid (show w0.heap.size + 2 ≤ wr.heap.size by have:=hr.2.2.2.2.2.1.lt;omega)
  have HTX:=Lib.hid (fun W=>rtext_any s p W hp hs)
  have htv:txV (txtF s (p + 1) []) = .tuple #[.string ⟨sy.toArray⟩,.int .i64 (q:Nat),.agg #[.string ⟨#[]⟩,.int .i64 0,.int .i64 0,.int .i64 0,.bool false]]:=by rw [hT];rfl
  rw [htv] at HTX
  clear hit hb hm hgd hc hs hr hw hq hT htv hpq hqs hz
  go_wp2_with fail
  refine (HBL.out _).mono ?_
  rintro e w1 ⟨rfl,rfl⟩
  go_wp2_with fail
  refine (HMK.out _).mono ?_
  rintro e w1 ⟨rfl,rfl⟩
  go_wp2_with fail
  refine (HNM.out _).mono ?_
  rintro e w1 ⟨rfl,rfl⟩
  go_wp2_with fail
  refine (HTX.out _).mono ?_
  rintro e w1 ⟨rfl,hb1⟩
  have hbW:=hb1.alloc hb1.size (.cells #[.string ⟨#[]⟩,.int .i64 0,.int .i64 0,.int .i64 0,.bool false] 105)
  obtain ⟨t0,t1,t2,t3,t4⟩:=cells5 (Blk.new w1 105 #[.string ⟨#[]⟩,.int .i64 0,.int .i64 0,.int .i64 0,.bool false])
  have HBW:=Lib.hid hbW
  have hle1:=hb1.size
  clear hb1 hbW
  obtain ⟨⟨m0,m1,m2,m3,m4⟩,⟨n0,n1,n2,n3,n4⟩,⟨f0,f1,f2,f3,f4⟩,⟨g0,g1,g2,g3,g4⟩⟩:=r9_cells HR.out HBW.out
  have hnb:=Blk.new (w1.alloc (.cells #[.string ⟨#[]⟩,.int .i64 0,.int .i64 0,.int .i64 0,.bool false] 105)) 60 #[.int .i64 4,.int .i64 (p:Nat),.int .i64 (z:Nat),.string ⟨sy.toArray⟩,.int .u64 0]
  try rw [World.size_alloc] at hnb
  have HNB:=Lib.hid hnb
  clear hnb
  have hownW:=own_below9 (r9_below HR.out HBW.out).2.2.2.1 (Below.refl _ _)
  have HOWN:=Lib.hid (hownW.alloc (.cells #[.int .i64 4,.int .i64 (p:Nat),.int .i64 (z:Nat),.string ⟨sy.toArray⟩,.int .u64 0] 60))
  have HB5:=Lib.hid ((r9_below HR.out HBW.out).2.2.2.2.2.1.alloc (.cells #[.int .i64 4,.int .i64 (p:Nat),.int .i64 (z:Nat),.string ⟨sy.toArray⟩,.int .u64 0] 60))
  have HWB:=Lib.hid (HBW.out.alloc HBW.out.size (.cells #[.int .i64 4,.int .i64 (p:Nat),.int .i64 (z:Nat),.string ⟨sy.toArray⟩,.int .u64 0] 60))
  have HSA:=Lib.hid (Nat.le_trans (show w0.heap.size + 2 ≤ ((w1.alloc (.cells #[.string ⟨#[]⟩,.int .i64 0,.int .i64 0,.int .i64 0,.bool false] 105))).heap.size by have:=HBW.out.size;have:=HSZ.out;omega) (show ((w1.alloc (.cells #[.string ⟨#[]⟩,.int .i64 0,.int .i64 0,.int .i64 0,.bool false] 105))).heap.size ≤ (((w1.alloc (.cells #[.string ⟨#[]⟩,.int .i64 0,.int .i64 0,.int .i64 0,.bool false] 105))).alloc (.cells #[.int .i64 4,.int .i64 (p:Nat),.int .i64 (z:Nat),.string ⟨sy.toArray⟩,.int .u64 0] 60)).heap.size by simp))
  clear hownW
  go_wp2_with (at_builtin;refine wpList_tok9 rfl (.tmp 138) (.tmp 145) rfl (w0.heap.size + 2) _ toks.length (toks.flatMap tokR) rfl HOWN.out _ _ rfl [.int .i64 4,.int .i64 (p:Nat),.int .i64 (z:Nat),.string ⟨sy.toArray⟩,.int .u64 0] rfl (by simp [Value.oneCell']) HNB.out (by have:=HTL.out;omega) HSA.out ?_;intro g cap w2 hown2 hg2;have hb2:=HB5.out.grown hg2 (fun hk=>by have:=(HOWN.out.lt _ hk.symm).1;omega);have k0:=(cells5 hb2).1;have kf:=hb2.frozen 0;have HOWN2:=Lib.hid hown2;have HG2:=Lib.hid hg2;clear hown2 hg2 hb2)
  refine ⟨?_,by have:=HPQ.out;have:=HQS.out;simp [mu9,intOf];omega⟩
  unfold WI9
  refine ⟨_,_,_,_,_,_,_,_,_,_,_,_,_,_,_,_,_,_,_,_,_,_,_,_,_,_,_,_,_,_,_,_,_,_,_,_,_,_,_,_,_,_,_,_,_,_,_,_,_,_,_,_,_,_,_,_,_,_,_,_,_,_,_,_,_,_,_,_,_,_,_,_,_,_,_,_,_,_,_,_,_,_,_,_,_,_,_,_,_,_,_,_,_,_,_,_,_,_,_,_,_,_,_,_,_,_,_,_,_,_,_,_,_,_,_,_,_,_,_,_,_,_,_,_,_,_,_,_,_,_,_,_,_,_,_,_,_,_,_,_,_,_,_,_,_,_,_,_,_,_,_,_,_,_,_,_,_,_,_,_,_,_,_,_,_,_,_,_,_,_,_,_,_,_,_,_,_,_,_,_,_,_,_,_,_,_,_,_,_,_,_,_,_,_,_,_,_,_,_,_,_,_,_,_,_,_,_,_,_,_,_,_,_,_,_,_,⟨q,toks ++ [⟨p,z,.str sy⟩],_,trivial,rfl,r9_push (t:=⟨p,z,.str sy⟩) HR.out HRD.out HPQ.out HQS.out HWB.out HOWN2.out HG2.out⟩,rfl⟩
end Go.Proofs.YtgmholdkdppbmaaGreatDoor.Lx

namespace Go.Proofs.YtgmholdkdppbmaaGreatDoor.Lx
open Go.RowKit Go.Shelf
attribute [local go_sem ↓] Go.wp_at_zero Go.wp_at_succ
theorem no_wait {a:Prop} {en:Bool} (hql:a → en = true):¬ ((true = false) ∨ (a ∧ en = false)):=by
  rintro (h | ⟨h1,h2⟩)
  · cases h
  · rw [hql h1] at h2;cases h2
theorem numP_le (t:List UInt8):(numP t).1 ≤ t.length:=by rw [← rnum_numP];exact rnum_le t 0
theorem numP_pos {t:List UInt8} {c:UInt8} {l:List UInt8} (ht:t = c :: l) (hc:c = 45 ∨ isD c = true):0 < (numP t).1:=by
  rw [← rnum_numP]
  subst ht
  have:∃ st',nxt 0 c = some st':=by
    unfold nxt
    by_cases h1:c = 45
    · exact ⟨1,by rw [if_pos ⟨rfl,h1⟩]⟩
    · rw [if_neg (fun h=>h1 h.2)]
      by_cases h2:c = 48
      · exact ⟨2,by rw [if_pos ⟨.inl rfl,h2⟩]⟩
      · rw [if_neg (fun h=>h2 h.2)]
        exact ⟨3,by rw [if_pos ⟨.inl rfl,hc.resolve_left h1⟩]⟩
  obtain ⟨st',h⟩:=this
  rw [rnum_on l h]
  simp
theorem numP_raw {t:List UInt8} (h:(numP t).2 = true):wrongP (t.take (numP t).1) = none:=by
  have e:=rnum_numP t
  have hl:=rnum_le t 0
  have h1:(numP t).1 = (rnum 0 t).1:=by rw [← e]
  have h2:ends (rnum 0 t).2 = true:=by rw [← h,← e]
  rw [h1]
  exact wrong_none (st:=(rnum 0 t).2) (by rw [rnum_take,List.length_take,Nat.min_eq_left hl]) h2
theorem wpList_store5 {ops:Array Oper} {rest:List Oper} {o:Oper} {a:Act} {Q:Exit → Act → World → Prop} {w:World} (hgd:o.guard = none) (x y:Operand) (ho:o.op = .store 32 x y) (hd:o.dst = none) (g:Nat) (hx:a.eval x = .pointer (some ⟨g,0,none⟩))
    (A:Option Addr) (n c:Nat) (i1 i2 i3 i4:Int) (hy:a.eval y = .agg #[.slice A n c,.int .i64 i1,.int .i64 i2,.int .i64 i3,.int .i64 i4]) {c0 c1 c2 c3 c4:Value} (hb:Blk w g 32 #[c0,c1,c2,c3,c4])
    (h:wpList Tryz.prog ops Q rest a (set5 w g (.slice A n c) (.int .i64 i1) (.int .i64 i2) (.int .i64 i3) (.int .i64 i4))):wpList Tryz.prog ops Q (o :: rest) a w:=by
  obtain ⟨k0,k1,k2,k3,k4⟩:=cells5 hb
  have f0:=hb.frozen 0
  have f1:=hb.frozen 1
  have f2:=hb.frozen 2
  have f3:=hb.frozen 3
  have f4:=hb.frozen 4
  refine wpList_plain hgd fun K hK=>?_
  have hKK:=hK _ _ h
  clear hK h hb
  unfold set5 at hKK
  unfold Oper.wp execOp
  simp only [ho]
  rw [hx,hy]
  clear ho hgd
  go_simp
  exact hKK
theorem r9_range {s:List UInt8} {en:Bool} {w0 wr W:World} {p no pos f h:Nat} {toks:List Tok} {v a b c d e:Value} (hr:R9 s en w0 p toks v wr) (hb:Below wr.heap.size wr W) (hp:rdF flP s en p = ⟨[],no,pos,f,h⟩) :
    RdE s en w0 (set5 ((set5 W (w0.heap.size + 1) v a b c d).setCell ⟨w0.heap.size + 1,3,none⟩ e) w0.heap.size v (.int .i64 (no:Nat)) (.int .i64 (pos:Nat)) (.int .i64 (f:Nat)) (.int .i64 (h:Nat))):=by
  obtain ⟨h1,h2,h3,h4,h5,h6,h7⟩:=r9_below hr hb
  have hne:v.ownBlock ≠ some (w0.heap.size + 1):=fun hk=>by have:=(h4.lt _ hk).1;omega
  have k5:Blk ((set5 W (w0.heap.size + 1) v a b c d).setCell ⟨w0.heap.size + 1,3,none⟩ e) w0.heap.size 32 #[.slice none 0 0,.int .i64 0,.int .i64 0,.int .i64 0,.int .i64 0]:=by
    unfold set5
    exact (((((h5.far (by simp) _).far (by simp) _).far (by simp) _).far (by simp) _).far (by simp) _).far (by simp) _
  exact rd_of k5 (ownsRow_setCell_other (own_set5 h4 (by omega) _ _ _ _ _) hne _) ((set5_below h7 (by omega) _ _ _ _ _).setCell (p:=⟨w0.heap.size + 1,3,none⟩) (by simp) _) h2 hp
set_option maxRecDepth 1000000 in
set_option maxHeartbeats 8000000 in
theorem case_num_bad (s:List UInt8) (en:Bool) (w0 wr:World) (p:Nat) (toks:List Tok) (v:Value) (Uh Ui Uj Uk Ul Um Un Uo Up Uq Ur Us Ut Uu Uv Uw Ux Uy Uz UA UB UC UD UE UF UG UH UI UJ UK UL UM UN UO UP UQ UR US UT UU UV UW UX UY UZ U0 U1 U2 U3 U4 U5 U6 U7 U8 U9 Va Vb Vc Vd Ve Vf Vg Vh Vi Vj Vk Vl Vm Vn Vo Vp Vq Vr Vs Vt Vu Vv Vw Vx Vy Vz VA VB VC VD VE VF VG VH VI VJ VK VL VM VN VO VP VQ VR VS VT VU VV VW VX VY VZ V0 V1 V2 V3 V4 V5 V6 V7 V8 V9 Wa Wb Wc Wd We Wf Wg Wh Wi Wj Wk Wl Wm Wn Wo Wp Wq Wr Ws Wt Wu Wv Ww Wx Wy Wz WA WB WC WD WE WF WG WH WI WJ WK WL WM WN WO WP WQ WR WS WT WU WV WW WX WY WZ W0 W1 W2 W3 W4 W5 W6 W7 W8 W9 Xa Xb Xc Xd Xe Xf Xg Xh Xi Xj Xk Xl Xm Xn Xo Xp Xq Xr Xs Xt Xu Xv Xw Xx Xy Xz XA XB XC XD XE XF XG XH XI XJ:Value) (Q0:Exit → Act → World → Prop) (hs:s.length ≤ 1000000000000) (hp:p < s.length) (hr:R9 s en w0 p toks v wr)
    (nP q:Nat) (nB:Bool) (hb:blankB (s.getD p 0) = false) (hm:markB (s.getD p 0) = false) (hw:wordOf (s.getD p 0) = []) (hq:s.getD p 0 ≠ 34) (hcd:s.getD p 0 = 45 ∨ isD (s.getD p 0) = true) (hN:numP (s.drop p) = (nP,nB)) (hpn:p + nP = q) (hnb:nB = false) (hql:q < s.length) (hQ:∀ x a w',RD9 s en w0 x a w' → Q0 x a w'):Code.wp Tryz.prog body9 (Exit.then (fun a' w''=>WI9 s en w0 (fun _=>True) a' w'' ∧ mu9 s a' < mu9 s ⟨#[.string ⟨s.toArray⟩,.bool en,undef,undef,.pointer (some ⟨w0.heap.size,0,none⟩),.pointer (some ⟨w0.heap.size + 1,0,none⟩),.int .i64 (p:Nat),Uh,Ui,Uj,Uk,Ul,Um,Un,Uo,Up,Uq,Ur,Us,Ut,Uu,Uv,Uw,Ux,Uy,Uz,UA,UB,UC,UD,UE,UF,UG,UH,UI,UJ,UK,UL,UM,UN,UO,UP,UQ,UR,US,UT,UU,UV,UW,UX,UY,UZ,U0,U1,U2,U3,U4,U5,U6,U7,U8,U9,Va,Vb,Vc,Vd,Ve,Vf,Vg,Vh,Vi,Vj,Vk,Vl,Vm,Vn,Vo,Vp,Vq,Vr,Vs,Vt,Vu,Vv,Vw,Vx,Vy,Vz,VA,VB,VC,VD,VE,VF,VG,VH,VI,VJ,VK,VL,VM,VN,VO,VP,VQ,VR,VS,VT,VU,VV,VW,VX,VY,VZ,V0,V1,V2,V3,V4,V5,V6,V7,V8,V9,Wa,Wb,Wc,Wd,We,Wf,Wg,Wh,Wi,Wj,Wk,Wl,Wm,Wn,Wo,Wp,Wq,Wr,Ws,Wt,Wu,Wv,Ww,Wx,Wy,Wz,WA,WB,WC,WD,WE,WF,WG,WH,WI,WJ,WK,WL,WM,WN,WO,WP,WQ,WR,WS,WT,WU,WV,WW,WX,WY,WZ,W0,W1,W2,W3,W4,W5,W6,W7,W8,W9,Xa,Xb,Xc,Xd,Xe,Xf,Xg,Xh,Xi,Xj,Xk,Xl,Xm,Xn,Xo,Xp,Xq,Xr,Xs,Xt,Xu,Xv,Xw,Xx,Xy,Xz,XA,XB,XC,XD,XE,XF,XG,XH,XI,XJ,undef],[]⟩) Q0) ⟨#[.string ⟨s.toArray⟩,.bool en,undef,undef,.pointer (some ⟨w0.heap.size,0,none⟩),.pointer (some ⟨w0.heap.size + 1,0,none⟩),.int .i64 (p:Nat),Uh,Ui,Uj,Uk,Ul,Um,Un,Uo,Up,Uq,Ur,Us,Ut,Uu,Uv,Uw,Ux,Uy,Uz,UA,UB,UC,UD,UE,UF,UG,UH,UI,UJ,UK,UL,UM,UN,UO,UP,UQ,UR,US,UT,UU,UV,UW,UX,UY,UZ,U0,U1,U2,U3,U4,U5,U6,U7,U8,U9,Va,Vb,Vc,Vd,Ve,Vf,Vg,Vh,Vi,Vj,Vk,Vl,Vm,Vn,Vo,Vp,Vq,Vr,Vs,Vt,Vu,Vv,Vw,Vx,Vy,Vz,VA,VB,VC,VD,VE,VF,VG,VH,VI,VJ,VK,VL,VM,VN,VO,VP,VQ,VR,VS,VT,VU,VV,VW,VX,VY,VZ,V0,V1,V2,V3,V4,V5,V6,V7,V8,V9,Wa,Wb,Wc,Wd,We,Wf,Wg,Wh,Wi,Wj,Wk,Wl,Wm,Wn,Wo,Wp,Wq,Wr,Ws,Wt,Wu,Wv,Ww,Wx,Wy,Wz,WA,WB,WC,WD,WE,WF,WG,WH,WI,WJ,WK,WL,WM,WN,WO,WP,WQ,WR,WS,WT,WU,WV,WW,WX,WY,WZ,W0,W1,W2,W3,W4,W5,W6,W7,W8,W9,Xa,Xb,Xc,Xd,Xe,Xf,Xg,Xh,Xi,Xj,Xk,Xl,Xm,Xn,Xo,Xp,Xq,Xr,Xs,Xt,Xu,Xv,Xw,Xx,Xy,Xz,XA,XB,XC,XD,XE,XF,XG,XH,XI,XJ,undef],[]⟩ wr:=by
  conv=>arg 2;whnf
  obtain ⟨c,hc⟩:∃ c,s[p] = c:=⟨_,rfl⟩
  have hget:=get_c s p c hp hc
  have hpI:(p:Int) < (s.length:Int):=by omega
  have hgd:s.getD p 0 = c:=by rw [getD_at hp,hc]
  have d0:decide (p < s.length) = true:=decide_eq_true hp
  have d1:decide ((p:Int) < (s.length:Int)) = true:=decide_eq_true hpI
  have HP:=Lib.hid hp
  have HQ0:=Lib.hid hQ
  clear hQ
  subst hnb
  have hit:item flP s en p = .bad 94 q q:=by unfold item;rw [if_neg (by rw [hb];simp),if_neg (by rw [hm];simp),if_neg (by rw [hw];simp),if_neg hq,if_neg (fun h=>hcd.elim h.1 (fun e=>by rw [h.2] at e;cases e))];unfold numI;rw [hN];dsimp only;rw [hpn];rw [if_pos ⟨rfl,hql⟩]
  have HCD:=Lib.hid (by rw [hgd] at hcd;exact hcd:c = 45 ∨ isD c = true)
  have hlen:=numP_le (s.drop p)
  rw [hN,List.length_drop] at hlen
  have hpos:=numP_pos (t:=s.drop p) (drop_at hp) (by rw [← hc,← getD_at hp] at *;exact hcd)
  rw [hN] at hpos
  dsimp only at hlen hpos
  rw [hgd] at hb hm hw hq hcd
  have HBL:=Lib.hid (fun W=>rblank_any c W)
  rw [hb] at HBL
  have HMK:=Lib.hid (fun W=>rmark_no c W hm)
  have HNM:=Lib.hid (fun W=>rname_any c W)
  rw [hw] at HNM
  have HDG:=Lib.hid (fun W=>ldigit_any s p W (by omega) (by omega))
  have hda:dAt s p = isD c:=dAt_of (c:=c) (by rw [List.getElem?_eq_getElem hp,hc])
  rw [hda] at HDG
  unfold sv at HDG
  have HNU:=Lib.hid (fun W=>rnum_any s p W hp hs)
  rw [numV_of hN hpn] at HNU
  unfold sv at HNU
  have q34:((c.toNat:Int) == 34) = false:=u8_ne (k:=34) (by decide) hq
  have hpb:(p:Int) ≤ 1000000000000:=by omega
  have hqb:(q:Int) ≤ 1000000000000:=by omega
  have HR:=Lib.hid hr
  have hsl:=hr.2.2.2.2.1.lt
  have hsz:=hr.2.2.2.2.2.2.size
  obtain ⟨A,cc,rfl,_⟩:=own_shape9 hr.2.2.2.1
  have hTL:toks.length ≤ s.length:=by have:=hr.2.2.1;omega
  have HTL:=Lib.hid (show toks.length ≤ 1000000000000 by omega)
  have HRD:=Lib.hid (rdF_bad hp hit)
  have HWR:=Lib.hid (fun W=>rwrong9 (.slice A toks.length cc) (.int .i64 0) (.int .i64 0) (.int .i64 0) (.int .i64 0) 94 q W ⟨A,_,cc,rfl⟩)
  have d2:decide ((q:Int) < (s.length:Int)) = true:=decide_eq_true (by omega)
  have d2':decide (q < s.length) = true:=decide_eq_true hql
  clear hit hb hm hgd hc hs hr hw hq hda hN hlen hpos hcd
  go_wp2_with fail
  refine (HBL.out _).mono ?_
  rintro e w1 ⟨rfl,rfl⟩
  go_wp2_with fail
  refine (HMK.out _).mono ?_
  rintro e w1 ⟨rfl,rfl⟩
  go_wp2_with fail
  refine (HNM.out _).mono ?_
  rintro e w1 ⟨rfl,rfl⟩
  by_cases h45:c = 45
  case' pos =>
    have q45:((c.toNat:Int) != 45) = false:=by rw [h45];rfl
    clear h45
    go_wp2_with fail
  case' neg =>
    have q45':((c.toNat:Int) == 45) = false:=u8_ne (k:=45) (by decide) h45
    have q45:((c.toNat:Int) != 45) = true:=by rw [bne,q45'];rfl
    rw [HCD.out.resolve_left h45] at HDG
    clear h45 q45'
    go_wp2_with fail
    refine (HDG.out _).mono ?_
    rintro e w1 ⟨rfl,rfl⟩
    go_wp2_with fail
  all_goals
    refine (HNU.out _).mono ?_
    rintro e w1 ⟨rfl,rfl⟩
    obtain ⟨⟨m0,m1,m2,m3,m4⟩,⟨n0,n1,n2,n3,n4⟩,⟨f0,f1,f2,f3,f4⟩,⟨g0,g1,g2,g3,g4⟩⟩:=r9_cells HR.out (Below.refl wr.heap.size wr)
    go_wp2_with fail
    clear m0 m1 m2 m3 m4 n0 n1 n2 n3 n4 f0 f1 f2 f3 f4 g0
    refine (HWR.out _).mono ?_
    rintro e w1 ⟨rfl,hb1⟩
    obtain ⟨⟨m0,m1,m2,m3,m4⟩,⟨n0,n1,n2,n3,n4⟩,⟨f0,f1,f2,f3,f4⟩,⟨g0,g1,g2,g3,g4⟩⟩:=r9_cells HR.out hb1
    go_wp2_with fail
    exact HQ0.out _ _ _ (.inl ⟨rfl,rfl,rfl,r9_ret HR.out hb1 HRD.out⟩)
set_option maxRecDepth 1000000 in
set_option maxHeartbeats 8000000 in
theorem case_num_cut (s:List UInt8) (en:Bool) (w0 wr:World) (p:Nat) (toks:List Tok) (v:Value) (Uh Ui Uj Uk Ul Um Un Uo Up Uq Ur Us Ut Uu Uv Uw Ux Uy Uz UA UB UC UD UE UF UG UH UI UJ UK UL UM UN UO UP UQ UR US UT UU UV UW UX UY UZ U0 U1 U2 U3 U4 U5 U6 U7 U8 U9 Va Vb Vc Vd Ve Vf Vg Vh Vi Vj Vk Vl Vm Vn Vo Vp Vq Vr Vs Vt Vu Vv Vw Vx Vy Vz VA VB VC VD VE VF VG VH VI VJ VK VL VM VN VO VP VQ VR VS VT VU VV VW VX VY VZ V0 V1 V2 V3 V4 V5 V6 V7 V8 V9 Wa Wb Wc Wd We Wf Wg Wh Wi Wj Wk Wl Wm Wn Wo Wp Wq Wr Ws Wt Wu Wv Ww Wx Wy Wz WA WB WC WD WE WF WG WH WI WJ WK WL WM WN WO WP WQ WR WS WT WU WV WW WX WY WZ W0 W1 W2 W3 W4 W5 W6 W7 W8 W9 Xa Xb Xc Xd Xe Xf Xg Xh Xi Xj Xk Xl Xm Xn Xo Xp Xq Xr Xs Xt Xu Xv Xw Xx Xy Xz XA XB XC XD XE XF XG XH XI XJ:Value) (Q0:Exit → Act → World → Prop) (hs:s.length ≤ 1000000000000) (hp:p < s.length) (hr:R9 s en w0 p toks v wr)
    (nP q:Nat) (nB:Bool) (hb:blankB (s.getD p 0) = false) (hm:markB (s.getD p 0) = false) (hw:wordOf (s.getD p 0) = []) (hq:s.getD p 0 ≠ 34) (hcd:s.getD p 0 = 45 ∨ isD (s.getD p 0) = true) (hN:numP (s.drop p) = (nP,nB)) (hpn:p + nP = q) (hnb:nB = false) (hql:q = s.length) (hQ:∀ x a w',RD9 s en w0 x a w' → Q0 x a w'):Code.wp Tryz.prog body9 (Exit.then (fun a' w''=>WI9 s en w0 (fun _=>True) a' w'' ∧ mu9 s a' < mu9 s ⟨#[.string ⟨s.toArray⟩,.bool en,undef,undef,.pointer (some ⟨w0.heap.size,0,none⟩),.pointer (some ⟨w0.heap.size + 1,0,none⟩),.int .i64 (p:Nat),Uh,Ui,Uj,Uk,Ul,Um,Un,Uo,Up,Uq,Ur,Us,Ut,Uu,Uv,Uw,Ux,Uy,Uz,UA,UB,UC,UD,UE,UF,UG,UH,UI,UJ,UK,UL,UM,UN,UO,UP,UQ,UR,US,UT,UU,UV,UW,UX,UY,UZ,U0,U1,U2,U3,U4,U5,U6,U7,U8,U9,Va,Vb,Vc,Vd,Ve,Vf,Vg,Vh,Vi,Vj,Vk,Vl,Vm,Vn,Vo,Vp,Vq,Vr,Vs,Vt,Vu,Vv,Vw,Vx,Vy,Vz,VA,VB,VC,VD,VE,VF,VG,VH,VI,VJ,VK,VL,VM,VN,VO,VP,VQ,VR,VS,VT,VU,VV,VW,VX,VY,VZ,V0,V1,V2,V3,V4,V5,V6,V7,V8,V9,Wa,Wb,Wc,Wd,We,Wf,Wg,Wh,Wi,Wj,Wk,Wl,Wm,Wn,Wo,Wp,Wq,Wr,Ws,Wt,Wu,Wv,Ww,Wx,Wy,Wz,WA,WB,WC,WD,WE,WF,WG,WH,WI,WJ,WK,WL,WM,WN,WO,WP,WQ,WR,WS,WT,WU,WV,WW,WX,WY,WZ,W0,W1,W2,W3,W4,W5,W6,W7,W8,W9,Xa,Xb,Xc,Xd,Xe,Xf,Xg,Xh,Xi,Xj,Xk,Xl,Xm,Xn,Xo,Xp,Xq,Xr,Xs,Xt,Xu,Xv,Xw,Xx,Xy,Xz,XA,XB,XC,XD,XE,XF,XG,XH,XI,XJ,undef],[]⟩) Q0) ⟨#[.string ⟨s.toArray⟩,.bool en,undef,undef,.pointer (some ⟨w0.heap.size,0,none⟩),.pointer (some ⟨w0.heap.size + 1,0,none⟩),.int .i64 (p:Nat),Uh,Ui,Uj,Uk,Ul,Um,Un,Uo,Up,Uq,Ur,Us,Ut,Uu,Uv,Uw,Ux,Uy,Uz,UA,UB,UC,UD,UE,UF,UG,UH,UI,UJ,UK,UL,UM,UN,UO,UP,UQ,UR,US,UT,UU,UV,UW,UX,UY,UZ,U0,U1,U2,U3,U4,U5,U6,U7,U8,U9,Va,Vb,Vc,Vd,Ve,Vf,Vg,Vh,Vi,Vj,Vk,Vl,Vm,Vn,Vo,Vp,Vq,Vr,Vs,Vt,Vu,Vv,Vw,Vx,Vy,Vz,VA,VB,VC,VD,VE,VF,VG,VH,VI,VJ,VK,VL,VM,VN,VO,VP,VQ,VR,VS,VT,VU,VV,VW,VX,VY,VZ,V0,V1,V2,V3,V4,V5,V6,V7,V8,V9,Wa,Wb,Wc,Wd,We,Wf,Wg,Wh,Wi,Wj,Wk,Wl,Wm,Wn,Wo,Wp,Wq,Wr,Ws,Wt,Wu,Wv,Ww,Wx,Wy,Wz,WA,WB,WC,WD,WE,WF,WG,WH,WI,WJ,WK,WL,WM,WN,WO,WP,WQ,WR,WS,WT,WU,WV,WW,WX,WY,WZ,W0,W1,W2,W3,W4,W5,W6,W7,W8,W9,Xa,Xb,Xc,Xd,Xe,Xf,Xg,Xh,Xi,Xj,Xk,Xl,Xm,Xn,Xo,Xp,Xq,Xr,Xs,Xt,Xu,Xv,Xw,Xx,Xy,Xz,XA,XB,XC,XD,XE,XF,XG,XH,XI,XJ,undef],[]⟩ wr:=by
  conv=>arg 2;whnf
  obtain ⟨c,hc⟩:∃ c,s[p] = c:=⟨_,rfl⟩
  have hget:=get_c s p c hp hc
  have hpI:(p:Int) < (s.length:Int):=by omega
  have hgd:s.getD p 0 = c:=by rw [getD_at hp,hc]
  have d0:decide (p < s.length) = true:=decide_eq_true hp
  have d1:decide ((p:Int) < (s.length:Int)) = true:=decide_eq_true hpI
  have HP:=Lib.hid hp
  have HQ0:=Lib.hid hQ
  clear hQ
  subst hnb
  have hit:item flP s en p = .cut:=by unfold item;rw [if_neg (by rw [hb];simp),if_neg (by rw [hm];simp),if_neg (by rw [hw];simp),if_neg hq,if_neg (fun h=>hcd.elim h.1 (fun e=>by rw [h.2] at e;cases e))];unfold numI;rw [hN];dsimp only;rw [hpn];rw [if_neg (by omega),if_pos (.inl rfl)]
  have HCD:=Lib.hid (by rw [hgd] at hcd;exact hcd:c = 45 ∨ isD c = true)
  have hlen:=numP_le (s.drop p)
  rw [hN,List.length_drop] at hlen
  have hpos:=numP_pos (t:=s.drop p) (drop_at hp) (by rw [← hc,← getD_at hp] at *;exact hcd)
  rw [hN] at hpos
  dsimp only at hlen hpos
  rw [hgd] at hb hm hw hq hcd
  have HBL:=Lib.hid (fun W=>rblank_any c W)
  rw [hb] at HBL
  have HMK:=Lib.hid (fun W=>rmark_no c W hm)
  have HNM:=Lib.hid (fun W=>rname_any c W)
  rw [hw] at HNM
  have HDG:=Lib.hid (fun W=>ldigit_any s p W (by omega) (by omega))
  have hda:dAt s p = isD c:=dAt_of (c:=c) (by rw [List.getElem?_eq_getElem hp,hc])
  rw [hda] at HDG
  unfold sv at HDG
  have HNU:=Lib.hid (fun W=>rnum_any s p W hp hs)
  rw [numV_of hN hpn] at HNU
  unfold sv at HNU
  have q34:((c.toNat:Int) == 34) = false:=u8_ne (k:=34) (by decide) hq
  have hpb:(p:Int) ≤ 1000000000000:=by omega
  have hqb:(q:Int) ≤ 1000000000000:=by omega
  have HR:=Lib.hid hr
  have hsl:=hr.2.2.2.2.1.lt
  have hsz:=hr.2.2.2.2.2.2.size
  obtain ⟨A,cc,rfl,_⟩:=own_shape9 hr.2.2.2.1
  have hTL:toks.length ≤ s.length:=by have:=hr.2.2.1;omega
  have HTL:=Lib.hid (show toks.length ≤ 1000000000000 by omega)
  have hcut:=rdF_cut hp hit
  have HCY:=Lib.hid (fun W=>rcut_yes (.slice A toks.length cc) (.int .i64 0) (.int .i64 0) (.int .i64 0) (.int .i64 0) s p W ⟨A,_,cc,rfl⟩ hs)
  have HCN:=Lib.hid (fun W=>rcut_no (.slice A toks.length cc) s p W ⟨A,_,cc,rfl⟩ hs (by omega))
  have HCUT:=Lib.hid hcut
  have HBW:=Lib.hid (Below.refl wr.heap.size wr)
  have d2:decide ((q:Int) < (s.length:Int)) = false:=decide_eq_false (by omega)
  have d2':decide (q < s.length) = false:=decide_eq_false (by omega)
  clear hcut hpn hql
  clear hit hb hm hgd hc hs hr hw hq hda hN hlen hpos hcd
  go_wp2_with fail
  refine (HBL.out _).mono ?_
  rintro e w1 ⟨rfl,rfl⟩
  go_wp2_with fail
  refine (HMK.out _).mono ?_
  rintro e w1 ⟨rfl,rfl⟩
  go_wp2_with fail
  refine (HNM.out _).mono ?_
  rintro e w1 ⟨rfl,rfl⟩
  by_cases h45:c = 45
  case' pos =>
    have q45:((c.toNat:Int) != 45) = false:=by rw [h45];rfl
    clear h45
    go_wp2_with fail
  case' neg =>
    have q45':((c.toNat:Int) == 45) = false:=u8_ne (k:=45) (by decide) h45
    have q45:((c.toNat:Int) != 45) = true:=by rw [bne,q45'];rfl
    rw [HCD.out.resolve_left h45] at HDG
    clear h45 q45'
    go_wp2_with fail
    refine (HDG.out _).mono ?_
    rintro e w1 ⟨rfl,rfl⟩
    go_wp2_with fail
  all_goals
    refine (HNU.out _).mono ?_
    rintro e w1 ⟨rfl,rfl⟩
    cases en
    · have HRD:Hid (rdF flP s false p = ⟨[],0,0,0,s.length - p⟩):=Lib.hid (by rw [HCUT.out];rfl)
      obtain ⟨⟨m0,m1,m2,m3,m4⟩,⟨n0,n1,n2,n3,n4⟩,⟨f0,f1,f2,f3,f4⟩,⟨g0,g1,g2,g3,g4⟩⟩:=r9_cells HR.out HBW.out
      go_wp2_with fail
      clear m0 m1 m2 m3 m4 n0 n1 n2 n3 n4 f0 f1 f2 f3 f4 g0 g1 g2 g3 g4
      refine (HCN.out _).mono ?_
      rintro e w2 ⟨rfl,hb2⟩
      have hbX:=keepb HBW.out hb2
      obtain ⟨⟨m0,m1,m2,m3,m4⟩,⟨n0,n1,n2,n3,n4⟩,⟨f0,f1,f2,f3,f4⟩,⟨g0,g1,g2,g3,g4⟩⟩:=r9_cells HR.out hbX
      go_wp2_with fail
      exact HQ0.out _ _ _ (.inl ⟨rfl,rfl,rfl,r9_ret HR.out hbX HRD.out⟩)
    · have HRD:Hid (rdF flP s true p = ⟨[],95,s.length,s.length,0⟩):=Lib.hid (by rw [HCUT.out];rfl)
      obtain ⟨⟨m0,m1,m2,m3,m4⟩,⟨n0,n1,n2,n3,n4⟩,⟨f0,f1,f2,f3,f4⟩,⟨g0,g1,g2,g3,g4⟩⟩:=r9_cells HR.out HBW.out
      go_wp2_with fail
      clear m0 m1 m2 m3 m4 n0 n1 n2 n3 n4 f0 f1 f2 f3 f4 g0 g1 g2 g3 g4
      refine (HCY.out _).mono ?_
      rintro e w2 ⟨rfl,hb2⟩
      have hbX:=keepb HBW.out hb2
      obtain ⟨⟨m0,m1,m2,m3,m4⟩,⟨n0,n1,n2,n3,n4⟩,⟨f0,f1,f2,f3,f4⟩,⟨g0,g1,g2,g3,g4⟩⟩:=r9_cells HR.out hbX
      go_wp2_with fail
      exact HQ0.out _ _ _ (.inl ⟨rfl,rfl,rfl,r9_ret HR.out hbX HRD.out⟩)
set_option maxRecDepth 1000000 in
set_option maxHeartbeats 8000000 in
theorem case_num_wait (s:List UInt8) (en:Bool) (w0 wr:World) (p:Nat) (toks:List Tok) (v:Value) (Uh Ui Uj Uk Ul Um Un Uo Up Uq Ur Us Ut Uu Uv Uw Ux Uy Uz UA UB UC UD UE UF UG UH UI UJ UK UL UM UN UO UP UQ UR US UT UU UV UW UX UY UZ U0 U1 U2 U3 U4 U5 U6 U7 U8 U9 Va Vb Vc Vd Ve Vf Vg Vh Vi Vj Vk Vl Vm Vn Vo Vp Vq Vr Vs Vt Vu Vv Vw Vx Vy Vz VA VB VC VD VE VF VG VH VI VJ VK VL VM VN VO VP VQ VR VS VT VU VV VW VX VY VZ V0 V1 V2 V3 V4 V5 V6 V7 V8 V9 Wa Wb Wc Wd We Wf Wg Wh Wi Wj Wk Wl Wm Wn Wo Wp Wq Wr Ws Wt Wu Wv Ww Wx Wy Wz WA WB WC WD WE WF WG WH WI WJ WK WL WM WN WO WP WQ WR WS WT WU WV WW WX WY WZ W0 W1 W2 W3 W4 W5 W6 W7 W8 W9 Xa Xb Xc Xd Xe Xf Xg Xh Xi Xj Xk Xl Xm Xn Xo Xp Xq Xr Xs Xt Xu Xv Xw Xx Xy Xz XA XB XC XD XE XF XG XH XI XJ:Value) (Q0:Exit → Act → World → Prop) (hs:s.length ≤ 1000000000000) (hp:p < s.length) (hr:R9 s en w0 p toks v wr)
    (nP q:Nat) (nB:Bool) (hb:blankB (s.getD p 0) = false) (hm:markB (s.getD p 0) = false) (hw:wordOf (s.getD p 0) = []) (hq:s.getD p 0 ≠ 34) (hcd:s.getD p 0 = 45 ∨ isD (s.getD p 0) = true) (hN:numP (s.drop p) = (nP,nB)) (hpn:p + nP = q) (hnb:nB = true) (hql:q = s.length) (hen:en = false) (hQ:∀ x a w',RD9 s en w0 x a w' → Q0 x a w'):Code.wp Tryz.prog body9 (Exit.then (fun a' w''=>WI9 s en w0 (fun _=>True) a' w'' ∧ mu9 s a' < mu9 s ⟨#[.string ⟨s.toArray⟩,.bool en,undef,undef,.pointer (some ⟨w0.heap.size,0,none⟩),.pointer (some ⟨w0.heap.size + 1,0,none⟩),.int .i64 (p:Nat),Uh,Ui,Uj,Uk,Ul,Um,Un,Uo,Up,Uq,Ur,Us,Ut,Uu,Uv,Uw,Ux,Uy,Uz,UA,UB,UC,UD,UE,UF,UG,UH,UI,UJ,UK,UL,UM,UN,UO,UP,UQ,UR,US,UT,UU,UV,UW,UX,UY,UZ,U0,U1,U2,U3,U4,U5,U6,U7,U8,U9,Va,Vb,Vc,Vd,Ve,Vf,Vg,Vh,Vi,Vj,Vk,Vl,Vm,Vn,Vo,Vp,Vq,Vr,Vs,Vt,Vu,Vv,Vw,Vx,Vy,Vz,VA,VB,VC,VD,VE,VF,VG,VH,VI,VJ,VK,VL,VM,VN,VO,VP,VQ,VR,VS,VT,VU,VV,VW,VX,VY,VZ,V0,V1,V2,V3,V4,V5,V6,V7,V8,V9,Wa,Wb,Wc,Wd,We,Wf,Wg,Wh,Wi,Wj,Wk,Wl,Wm,Wn,Wo,Wp,Wq,Wr,Ws,Wt,Wu,Wv,Ww,Wx,Wy,Wz,WA,WB,WC,WD,WE,WF,WG,WH,WI,WJ,WK,WL,WM,WN,WO,WP,WQ,WR,WS,WT,WU,WV,WW,WX,WY,WZ,W0,W1,W2,W3,W4,W5,W6,W7,W8,W9,Xa,Xb,Xc,Xd,Xe,Xf,Xg,Xh,Xi,Xj,Xk,Xl,Xm,Xn,Xo,Xp,Xq,Xr,Xs,Xt,Xu,Xv,Xw,Xx,Xy,Xz,XA,XB,XC,XD,XE,XF,XG,XH,XI,XJ,undef],[]⟩) Q0) ⟨#[.string ⟨s.toArray⟩,.bool en,undef,undef,.pointer (some ⟨w0.heap.size,0,none⟩),.pointer (some ⟨w0.heap.size + 1,0,none⟩),.int .i64 (p:Nat),Uh,Ui,Uj,Uk,Ul,Um,Un,Uo,Up,Uq,Ur,Us,Ut,Uu,Uv,Uw,Ux,Uy,Uz,UA,UB,UC,UD,UE,UF,UG,UH,UI,UJ,UK,UL,UM,UN,UO,UP,UQ,UR,US,UT,UU,UV,UW,UX,UY,UZ,U0,U1,U2,U3,U4,U5,U6,U7,U8,U9,Va,Vb,Vc,Vd,Ve,Vf,Vg,Vh,Vi,Vj,Vk,Vl,Vm,Vn,Vo,Vp,Vq,Vr,Vs,Vt,Vu,Vv,Vw,Vx,Vy,Vz,VA,VB,VC,VD,VE,VF,VG,VH,VI,VJ,VK,VL,VM,VN,VO,VP,VQ,VR,VS,VT,VU,VV,VW,VX,VY,VZ,V0,V1,V2,V3,V4,V5,V6,V7,V8,V9,Wa,Wb,Wc,Wd,We,Wf,Wg,Wh,Wi,Wj,Wk,Wl,Wm,Wn,Wo,Wp,Wq,Wr,Ws,Wt,Wu,Wv,Ww,Wx,Wy,Wz,WA,WB,WC,WD,WE,WF,WG,WH,WI,WJ,WK,WL,WM,WN,WO,WP,WQ,WR,WS,WT,WU,WV,WW,WX,WY,WZ,W0,W1,W2,W3,W4,W5,W6,W7,W8,W9,Xa,Xb,Xc,Xd,Xe,Xf,Xg,Xh,Xi,Xj,Xk,Xl,Xm,Xn,Xo,Xp,Xq,Xr,Xs,Xt,Xu,Xv,Xw,Xx,Xy,Xz,XA,XB,XC,XD,XE,XF,XG,XH,XI,XJ,undef],[]⟩ wr:=by
  conv=>arg 2;whnf
  obtain ⟨c,hc⟩:∃ c,s[p] = c:=⟨_,rfl⟩
  have hget:=get_c s p c hp hc
  have hpI:(p:Int) < (s.length:Int):=by omega
  have hgd:s.getD p 0 = c:=by rw [getD_at hp,hc]
  have d0:decide (p < s.length) = true:=decide_eq_true hp
  have d1:decide ((p:Int) < (s.length:Int)) = true:=decide_eq_true hpI
  have HP:=Lib.hid hp
  have HQ0:=Lib.hid hQ
  clear hQ
  subst hnb
  subst hen
  have hit:item flP s false p = .cut:=by unfold item;rw [if_neg (by rw [hb];simp),if_neg (by rw [hm];simp),if_neg (by rw [hw];simp),if_neg hq,if_neg (fun h=>hcd.elim h.1 (fun e=>by rw [h.2] at e;cases e))];unfold numI;rw [hN];dsimp only;rw [hpn];rw [if_neg (by simp),if_pos (.inr ⟨hql,rfl⟩)]
  have HCD:=Lib.hid (by rw [hgd] at hcd;exact hcd:c = 45 ∨ isD c = true)
  have hlen:=numP_le (s.drop p)
  rw [hN,List.length_drop] at hlen
  have hpos:=numP_pos (t:=s.drop p) (drop_at hp) (by rw [← hc,← getD_at hp] at *;exact hcd)
  rw [hN] at hpos
  dsimp only at hlen hpos
  rw [hgd] at hb hm hw hq hcd
  have HBL:=Lib.hid (fun W=>rblank_any c W)
  rw [hb] at HBL
  have HMK:=Lib.hid (fun W=>rmark_no c W hm)
  have HNM:=Lib.hid (fun W=>rname_any c W)
  rw [hw] at HNM
  have HDG:=Lib.hid (fun W=>ldigit_any s p W (by omega) (by omega))
  have hda:dAt s p = isD c:=dAt_of (c:=c) (by rw [List.getElem?_eq_getElem hp,hc])
  rw [hda] at HDG
  unfold sv at HDG
  have HNU:=Lib.hid (fun W=>rnum_any s p W hp hs)
  rw [numV_of hN hpn] at HNU
  unfold sv at HNU
  have q34:((c.toNat:Int) == 34) = false:=u8_ne (k:=34) (by decide) hq
  have hpb:(p:Int) ≤ 1000000000000:=by omega
  have hqb:(q:Int) ≤ 1000000000000:=by omega
  have HR:=Lib.hid hr
  have hsl:=hr.2.2.2.2.1.lt
  have hsz:=hr.2.2.2.2.2.2.size
  obtain ⟨A,cc,rfl,_⟩:=own_shape9 hr.2.2.2.1
  have hTL:toks.length ≤ s.length:=by have:=hr.2.2.1;omega
  have HTL:=Lib.hid (show toks.length ≤ 1000000000000 by omega)
  have hcut:=rdF_cut hp hit
  have HCY:=Lib.hid (fun W=>rcut_yes (.slice A toks.length cc) (.int .i64 0) (.int .i64 0) (.int .i64 0) (.int .i64 0) s p W ⟨A,_,cc,rfl⟩ hs)
  have HCN:=Lib.hid (fun W=>rcut_no (.slice A toks.length cc) s p W ⟨A,_,cc,rfl⟩ hs (by omega))
  have HBW:=Lib.hid (Below.refl wr.heap.size wr)
  have HRD:Hid (rdF flP s false p = ⟨[],0,0,0,s.length - p⟩):=Lib.hid (by rw [hcut];rfl)
  have e2:((q:Int) == (s.length:Int)) = true:=by simp;omega
  have e2':(q == s.length) = true:=by simp;omega
  clear hcut hpn hql
  clear hit hb hm hgd hc hs hr hw hq hda hN hlen hpos hcd
  go_wp2_with fail
  refine (HBL.out _).mono ?_
  rintro e w1 ⟨rfl,rfl⟩
  go_wp2_with fail
  refine (HMK.out _).mono ?_
  rintro e w1 ⟨rfl,rfl⟩
  go_wp2_with fail
  refine (HNM.out _).mono ?_
  rintro e w1 ⟨rfl,rfl⟩
  by_cases h45:c = 45
  case' pos =>
    have q45:((c.toNat:Int) != 45) = false:=by rw [h45];rfl
    clear h45
    go_wp2_with fail
  case' neg =>
    have q45':((c.toNat:Int) == 45) = false:=u8_ne (k:=45) (by decide) h45
    have q45:((c.toNat:Int) != 45) = true:=by rw [bne,q45'];rfl
    rw [HCD.out.resolve_left h45] at HDG
    clear h45 q45'
    go_wp2_with fail
    refine (HDG.out _).mono ?_
    rintro e w1 ⟨rfl,rfl⟩
    go_wp2_with fail
  all_goals
    refine (HNU.out _).mono ?_
    rintro e w1 ⟨rfl,rfl⟩
    obtain ⟨⟨m0,m1,m2,m3,m4⟩,⟨n0,n1,n2,n3,n4⟩,⟨f0,f1,f2,f3,f4⟩,⟨g0,g1,g2,g3,g4⟩⟩:=r9_cells HR.out HBW.out
    go_wp2_with fail
    clear m0 m1 m2 m3 m4 n0 n1 n2 n3 n4 f0 f1 f2 f3 f4 g0 g1 g2 g3 g4
    refine (HCN.out _).mono ?_
    rintro e w2 ⟨rfl,hb2⟩
    have hbX:=keepb HBW.out hb2
    obtain ⟨⟨m0,m1,m2,m3,m4⟩,⟨n0,n1,n2,n3,n4⟩,⟨f0,f1,f2,f3,f4⟩,⟨g0,g1,g2,g3,g4⟩⟩:=r9_cells HR.out hbX
    go_wp2_with fail
    exact HQ0.out _ _ _ (.inl ⟨rfl,rfl,rfl,r9_ret HR.out hbX HRD.out⟩)
set_option maxRecDepth 1000000 in
set_option maxHeartbeats 8000000 in
theorem case_num_range (s:List UInt8) (en:Bool) (w0 wr:World) (p:Nat) (toks:List Tok) (v:Value) (Uh Ui Uj Uk Ul Um Un Uo Up Uq Ur Us Ut Uu Uv Uw Ux Uy Uz UA UB UC UD UE UF UG UH UI UJ UK UL UM UN UO UP UQ UR US UT UU UV UW UX UY UZ U0 U1 U2 U3 U4 U5 U6 U7 U8 U9 Va Vb Vc Vd Ve Vf Vg Vh Vi Vj Vk Vl Vm Vn Vo Vp Vq Vr Vs Vt Vu Vv Vw Vx Vy Vz VA VB VC VD VE VF VG VH VI VJ VK VL VM VN VO VP VQ VR VS VT VU VV VW VX VY VZ V0 V1 V2 V3 V4 V5 V6 V7 V8 V9 Wa Wb Wc Wd We Wf Wg Wh Wi Wj Wk Wl Wm Wn Wo Wp Wq Wr Ws Wt Wu Wv Ww Wx Wy Wz WA WB WC WD WE WF WG WH WI WJ WK WL WM WN WO WP WQ WR WS WT WU WV WW WX WY WZ W0 W1 W2 W3 W4 W5 W6 W7 W8 W9 Xa Xb Xc Xd Xe Xf Xg Xh Xi Xj Xk Xl Xm Xn Xo Xp Xq Xr Xs Xt Xu Xv Xw Xx Xy Xz XA XB XC XD XE XF XG XH XI XJ:Value) (Q0:Exit → Act → World → Prop) (hs:s.length ≤ 1000000000000) (hp:p < s.length) (hr:R9 s en w0 p toks v wr)
    (nP q:Nat) (nB:Bool) (hb:blankB (s.getD p 0) = false) (hm:markB (s.getD p 0) = false) (hw:wordOf (s.getD p 0) = []) (hq:s.getD p 0 ≠ 34) (hcd:s.getD p 0 = 45 ∨ isD (s.getD p 0) = true) (hN:numP (s.drop p) = (nP,nB)) (hpn:p + nP = q) (hnb:nB = true) (hql:q = s.length → en = true) (hfl:flP ((s.drop p).take nP) = none) (hQ:∀ x a w',RD9 s en w0 x a w' → Q0 x a w'):Code.wp Tryz.prog body9 (Exit.then (fun a' w''=>WI9 s en w0 (fun _=>True) a' w'' ∧ mu9 s a' < mu9 s ⟨#[.string ⟨s.toArray⟩,.bool en,undef,undef,.pointer (some ⟨w0.heap.size,0,none⟩),.pointer (some ⟨w0.heap.size + 1,0,none⟩),.int .i64 (p:Nat),Uh,Ui,Uj,Uk,Ul,Um,Un,Uo,Up,Uq,Ur,Us,Ut,Uu,Uv,Uw,Ux,Uy,Uz,UA,UB,UC,UD,UE,UF,UG,UH,UI,UJ,UK,UL,UM,UN,UO,UP,UQ,UR,US,UT,UU,UV,UW,UX,UY,UZ,U0,U1,U2,U3,U4,U5,U6,U7,U8,U9,Va,Vb,Vc,Vd,Ve,Vf,Vg,Vh,Vi,Vj,Vk,Vl,Vm,Vn,Vo,Vp,Vq,Vr,Vs,Vt,Vu,Vv,Vw,Vx,Vy,Vz,VA,VB,VC,VD,VE,VF,VG,VH,VI,VJ,VK,VL,VM,VN,VO,VP,VQ,VR,VS,VT,VU,VV,VW,VX,VY,VZ,V0,V1,V2,V3,V4,V5,V6,V7,V8,V9,Wa,Wb,Wc,Wd,We,Wf,Wg,Wh,Wi,Wj,Wk,Wl,Wm,Wn,Wo,Wp,Wq,Wr,Ws,Wt,Wu,Wv,Ww,Wx,Wy,Wz,WA,WB,WC,WD,WE,WF,WG,WH,WI,WJ,WK,WL,WM,WN,WO,WP,WQ,WR,WS,WT,WU,WV,WW,WX,WY,WZ,W0,W1,W2,W3,W4,W5,W6,W7,W8,W9,Xa,Xb,Xc,Xd,Xe,Xf,Xg,Xh,Xi,Xj,Xk,Xl,Xm,Xn,Xo,Xp,Xq,Xr,Xs,Xt,Xu,Xv,Xw,Xx,Xy,Xz,XA,XB,XC,XD,XE,XF,XG,XH,XI,XJ,undef],[]⟩) Q0) ⟨#[.string ⟨s.toArray⟩,.bool en,undef,undef,.pointer (some ⟨w0.heap.size,0,none⟩),.pointer (some ⟨w0.heap.size + 1,0,none⟩),.int .i64 (p:Nat),Uh,Ui,Uj,Uk,Ul,Um,Un,Uo,Up,Uq,Ur,Us,Ut,Uu,Uv,Uw,Ux,Uy,Uz,UA,UB,UC,UD,UE,UF,UG,UH,UI,UJ,UK,UL,UM,UN,UO,UP,UQ,UR,US,UT,UU,UV,UW,UX,UY,UZ,U0,U1,U2,U3,U4,U5,U6,U7,U8,U9,Va,Vb,Vc,Vd,Ve,Vf,Vg,Vh,Vi,Vj,Vk,Vl,Vm,Vn,Vo,Vp,Vq,Vr,Vs,Vt,Vu,Vv,Vw,Vx,Vy,Vz,VA,VB,VC,VD,VE,VF,VG,VH,VI,VJ,VK,VL,VM,VN,VO,VP,VQ,VR,VS,VT,VU,VV,VW,VX,VY,VZ,V0,V1,V2,V3,V4,V5,V6,V7,V8,V9,Wa,Wb,Wc,Wd,We,Wf,Wg,Wh,Wi,Wj,Wk,Wl,Wm,Wn,Wo,Wp,Wq,Wr,Ws,Wt,Wu,Wv,Ww,Wx,Wy,Wz,WA,WB,WC,WD,WE,WF,WG,WH,WI,WJ,WK,WL,WM,WN,WO,WP,WQ,WR,WS,WT,WU,WV,WW,WX,WY,WZ,W0,W1,W2,W3,W4,W5,W6,W7,W8,W9,Xa,Xb,Xc,Xd,Xe,Xf,Xg,Xh,Xi,Xj,Xk,Xl,Xm,Xn,Xo,Xp,Xq,Xr,Xs,Xt,Xu,Xv,Xw,Xx,Xy,Xz,XA,XB,XC,XD,XE,XF,XG,XH,XI,XJ,undef],[]⟩ wr:=by
  conv=>arg 2;whnf
  obtain ⟨c,hc⟩:∃ c,s[p] = c:=⟨_,rfl⟩
  have hget:=get_c s p c hp hc
  have hpI:(p:Int) < (s.length:Int):=by omega
  have hgd:s.getD p 0 = c:=by rw [getD_at hp,hc]
  have d0:decide (p < s.length) = true:=decide_eq_true hp
  have d1:decide ((p:Int) < (s.length:Int)) = true:=decide_eq_true hpI
  have HP:=Lib.hid hp
  have HQ0:=Lib.hid hQ
  clear hQ
  subst hnb
  have hit:item flP s en p = .bad 41 p q:=by unfold item;rw [if_neg (by rw [hb];simp),if_neg (by rw [hm];simp),if_neg (by rw [hw];simp),if_neg hq,if_neg (fun h=>hcd.elim h.1 (fun e=>by rw [h.2] at e;cases e))];unfold numI;rw [hN];dsimp only;rw [hpn];rw [if_neg (by simp),if_neg (no_wait hql),hfl]
  have HCD:=Lib.hid (by rw [hgd] at hcd;exact hcd:c = 45 ∨ isD c = true)
  have hlen:=numP_le (s.drop p)
  rw [hN,List.length_drop] at hlen
  have hpos:=numP_pos (t:=s.drop p) (drop_at hp) (by rw [← hc,← getD_at hp] at *;exact hcd)
  rw [hN] at hpos
  dsimp only at hlen hpos
  rw [hgd] at hb hm hw hq hcd
  have HBL:=Lib.hid (fun W=>rblank_any c W)
  rw [hb] at HBL
  have HMK:=Lib.hid (fun W=>rmark_no c W hm)
  have HNM:=Lib.hid (fun W=>rname_any c W)
  rw [hw] at HNM
  have HDG:=Lib.hid (fun W=>ldigit_any s p W (by omega) (by omega))
  have hda:dAt s p = isD c:=dAt_of (c:=c) (by rw [List.getElem?_eq_getElem hp,hc])
  rw [hda] at HDG
  unfold sv at HDG
  have HNU:=Lib.hid (fun W=>rnum_any s p W hp hs)
  rw [numV_of hN hpn] at HNU
  unfold sv at HNU
  have q34:((c.toNat:Int) == 34) = false:=u8_ne (k:=34) (by decide) hq
  have hpb:(p:Int) ≤ 1000000000000:=by omega
  have hqb:(q:Int) ≤ 1000000000000:=by omega
  have HR:=Lib.hid hr
  have hsl:=hr.2.2.2.2.1.lt
  have hsz:=hr.2.2.2.2.2.2.size
  obtain ⟨A,cc,rfl,_⟩:=own_shape9 hr.2.2.2.1
  have hTL:toks.length ≤ s.length:=by have:=hr.2.2.1;omega
  have HTL:=Lib.hid (show toks.length ≤ 1000000000000 by omega)
  have hraw:=numP_raw (t:=s.drop p) (by rw [hN])
  rw [hN] at hraw
  dsimp only at hraw
  have hcl:cutL s p q = (s.drop p).take nP:=by unfold cutL;rw [show q - p = nP by omega]
  obtain ⟨raw,hrw⟩:∃ raw,(s.drop p).take nP = raw:=⟨_,rfl⟩
  rw [hrw] at hcl hraw hfl
  have hrl:raw.length ≤ 1000000000000:=by rw [← hrw,List.length_take];omega
  have HFL:=Lib.hid (fun W=>rflo_any raw W hrl hraw)
  rw [hfl] at HFL
  unfold roundR at HFL
  have HEX:=Lib.hid (fun W=>(run_cutStr s p q (by omega) (by omega) W).trans (by rw [ext_cut,hcl]))
  have hcut:=HEX.out
  have hcut2:∀ W:World,(Instr.slice 9 (.string ⟨s.toArray⟩) (some (.int .i64 (p:Nat))) (some (.int .i64 (q:Nat))) none).run Tryz.prog W = .ok (.string ⟨raw.toArray⟩) W:=fun W=>(run_sliceAt_string W _ _ _ _ _ Tryz.underlying9).symm.trans (hcut W)
  have HRD:=Lib.hid (rdF_bad hp hit)
  have HWR:=Lib.hid (fun W=>rwrong9 (.slice A toks.length cc) (.int .i64 0) (.int .i64 0) (.int .i64 0) (.int .i64 0) 41 p W ⟨A,_,cc,rfl⟩)
  have HQL:=Lib.hid hql
  have HQS:=Lib.hid (show q ≤ s.length by omega)
  clear hrw hcl hraw hfl hrl hql hpn
  clear hit hb hm hgd hc hs hr hw hq hda hN hlen hpos hcd
  go_wp2_with fail
  refine (HBL.out _).mono ?_
  rintro e w1 ⟨rfl,rfl⟩
  go_wp2_with fail
  refine (HMK.out _).mono ?_
  rintro e w1 ⟨rfl,rfl⟩
  go_wp2_with fail
  refine (HNM.out _).mono ?_
  rintro e w1 ⟨rfl,rfl⟩
  by_cases h45:c = 45
  case' pos =>
    have q45:((c.toNat:Int) != 45) = false:=by rw [h45];rfl
    clear h45
    go_wp2_with fail
  case' neg =>
    have q45':((c.toNat:Int) == 45) = false:=u8_ne (k:=45) (by decide) h45
    have q45:((c.toNat:Int) != 45) = true:=by rw [bne,q45'];rfl
    rw [HCD.out.resolve_left h45] at HDG
    clear h45 q45'
    go_wp2_with fail
    refine (HDG.out _).mono ?_
    rintro e w1 ⟨rfl,rfl⟩
    go_wp2_with fail
  all_goals
    refine (HNU.out _).mono ?_
    rintro e w1 ⟨rfl,rfl⟩
    have hcond:(((q:Int) == (s.length:Int)) = false ∧ (q == s.length) = false) ∨ (((q:Int) == (s.length:Int)) = true ∧ (q == s.length) = true ∧ en = true):=by
      rcases Nat.lt_or_ge q s.length with h | h
      · exact .inl ⟨by simp;omega,by simp;omega⟩
      · right
        have hqe:=HQL.out (Nat.le_antisymm HQS.out h)
        exact ⟨by have:=HQS.out;simp;omega,by have:=HQS.out;simp;omega,hqe⟩
    rcases hcond with ⟨e2,e2'⟩ | ⟨e2,e2',rfl⟩
    all_goals
      go_wp2_with fail
      refine (HFL.out _).mono ?_
      rintro e w1 ⟨rfl,hb1⟩
      clear e2 e2'
      have HBW:=Lib.hid hb1
      obtain ⟨⟨m0,m1,m2,m3,m4⟩,⟨n0,n1,n2,n3,n4⟩,⟨f0,f1,f2,f3,f4⟩,⟨g0,g1,g2,g3,g4⟩⟩:=r9_cells HR.out HBW.out
      go_wp2_with fail
      clear m0 m1 m2 m3 m4 n0 n1 n2 n3 n4 f0 f1 f2 f3 f4 g0 g1 g2 g3 g4
      refine (HWR.out _).mono ?_
      rintro e w2 ⟨rfl,hb2⟩
      have hbX:=keepb HBW.out hb2
      have HBX:=Lib.hid hbX
      have HB4:=Lib.hid (r9_below HR.out hbX).2.2.2.2.1
      have HB5:=Lib.hid (r9_below HR.out hbX).2.2.2.2.2.1
      have HV5:=Lib.hid (set5_blk HB5.out (.slice A toks.length cc) (.int .i64 41) (.int .i64 (p:Nat)) (.int .i64 (p:Nat)) (.int .i64 0))
      have HW5:=Lib.hid (HV5.out.set1 3 (.int .i64 (q:Nat)))
      have k4:Blk ((set5 w2 (w0.heap.size + 1) (.slice A toks.length cc) (.int .i64 41) (.int .i64 (p:Nat)) (.int .i64 (p:Nat)) (.int .i64 0)).setCell ⟨w0.heap.size + 1,3,none⟩ (.int .i64 (q:Nat))) w0.heap.size 32 #[.slice none 0 0,.int .i64 0,.int .i64 0,.int .i64 0,.int .i64 0]:=by
        unfold set5
        exact (((((HB4.out.far (by simp) _).far (by simp) _).far (by simp) _).far (by simp) _).far (by simp) _).far (by simp) _
      have HW4:=Lib.hid k4
      clear k4
      have hw3:=(cells5 HV5.out).2.2.2.1
      have fw3:=HV5.out.frozen 3
      unfold outV
      simp only []
      go_step
      refine wpList_store5 rfl (.tmp 5) (.tmp 206) rfl rfl (w0.heap.size + 1) rfl A toks.length cc 41 (p:Nat) (p:Nat) 0 rfl HB5.out ?_
      go_step
      go_step
      go_step
      go_step
      go_step
      go_step
      go_step
      go_step
      go_step
      go_step
      go_step
      go_step
      go_step
      go_step
      clear hw3 fw3
      obtain ⟨V,hV⟩:∃ V,(set5 w2 (w0.heap.size + 1) (.slice A toks.length cc) (.int .i64 41) (.int .i64 (p:Nat)) (.int .i64 (p:Nat)) (.int .i64 0)).setCell ⟨w0.heap.size + 1,3,none⟩ (.int .i64 (q:Nat)) = V:=⟨_,rfl⟩
      have HE:=Lib.hid hV
      have hw5:=HW5.out
      have hw4:=HW4.out
      simp only [hV] at hw5 hw4 ⊢
      simp at hw5
      clear hV HV5 HW5 HW4
      obtain ⟨y0,y1,y2,y3,y4⟩:=cells5 hw5
      obtain ⟨z0,z1,z2,z3,z4⟩:=cells5 hw4
      have f0:=hw4.frozen 0
      have f1:=hw4.frozen 1
      have f2:=hw4.frozen 2
      have f3:=hw4.frozen 3
      have f4:=hw4.frozen 4
      clear hw5 hw4
      go_wp2_with fail
      have he:=HE.out
      subst he
      exact HQ0.out _ _ _ (.inl ⟨rfl,rfl,rfl,r9_range HR.out HBX.out HRD.out⟩)
set_option maxRecDepth 1000000 in
set_option maxHeartbeats 8000000 in
theorem case_num_ok (s:List UInt8) (en:Bool) (w0 wr:World) (p:Nat) (toks:List Tok) (v:Value) (Uh Ui Uj Uk Ul Um Un Uo Up Uq Ur Us Ut Uu Uv Uw Ux Uy Uz UA UB UC UD UE UF UG UH UI UJ UK UL UM UN UO UP UQ UR US UT UU UV UW UX UY UZ U0 U1 U2 U3 U4 U5 U6 U7 U8 U9 Va Vb Vc Vd Ve Vf Vg Vh Vi Vj Vk Vl Vm Vn Vo Vp Vq Vr Vs Vt Vu Vv Vw Vx Vy Vz VA VB VC VD VE VF VG VH VI VJ VK VL VM VN VO VP VQ VR VS VT VU VV VW VX VY VZ V0 V1 V2 V3 V4 V5 V6 V7 V8 V9 Wa Wb Wc Wd We Wf Wg Wh Wi Wj Wk Wl Wm Wn Wo Wp Wq Wr Ws Wt Wu Wv Ww Wx Wy Wz WA WB WC WD WE WF WG WH WI WJ WK WL WM WN WO WP WQ WR WS WT WU WV WW WX WY WZ W0 W1 W2 W3 W4 W5 W6 W7 W8 W9 Xa Xb Xc Xd Xe Xf Xg Xh Xi Xj Xk Xl Xm Xn Xo Xp Xq Xr Xs Xt Xu Xv Xw Xx Xy Xz XA XB XC XD XE XF XG XH XI XJ:Value) (Q0:Exit → Act → World → Prop) (hs:s.length ≤ 1000000000000) (hp:p < s.length) (hr:R9 s en w0 p toks v wr)
    (nP q:Nat) (nB:Bool) (hb:blankB (s.getD p 0) = false) (hm:markB (s.getD p 0) = false) (hw:wordOf (s.getD p 0) = []) (hq:s.getD p 0 ≠ 34) (hcd:s.getD p 0 = 45 ∨ isD (s.getD p 0) = true) (hN:numP (s.drop p) = (nP,nB)) (hpn:p + nP = q) (x:Nat) (hnb:nB = true) (hql:q = s.length → en = true) (hfl:flP ((s.drop p).take nP) = some x) (hQ:∀ x a w',RD9 s en w0 x a w' → Q0 x a w'):Code.wp Tryz.prog body9 (Exit.then (fun a' w''=>WI9 s en w0 (fun _=>True) a' w'' ∧ mu9 s a' < mu9 s ⟨#[.string ⟨s.toArray⟩,.bool en,undef,undef,.pointer (some ⟨w0.heap.size,0,none⟩),.pointer (some ⟨w0.heap.size + 1,0,none⟩),.int .i64 (p:Nat),Uh,Ui,Uj,Uk,Ul,Um,Un,Uo,Up,Uq,Ur,Us,Ut,Uu,Uv,Uw,Ux,Uy,Uz,UA,UB,UC,UD,UE,UF,UG,UH,UI,UJ,UK,UL,UM,UN,UO,UP,UQ,UR,US,UT,UU,UV,UW,UX,UY,UZ,U0,U1,U2,U3,U4,U5,U6,U7,U8,U9,Va,Vb,Vc,Vd,Ve,Vf,Vg,Vh,Vi,Vj,Vk,Vl,Vm,Vn,Vo,Vp,Vq,Vr,Vs,Vt,Vu,Vv,Vw,Vx,Vy,Vz,VA,VB,VC,VD,VE,VF,VG,VH,VI,VJ,VK,VL,VM,VN,VO,VP,VQ,VR,VS,VT,VU,VV,VW,VX,VY,VZ,V0,V1,V2,V3,V4,V5,V6,V7,V8,V9,Wa,Wb,Wc,Wd,We,Wf,Wg,Wh,Wi,Wj,Wk,Wl,Wm,Wn,Wo,Wp,Wq,Wr,Ws,Wt,Wu,Wv,Ww,Wx,Wy,Wz,WA,WB,WC,WD,WE,WF,WG,WH,WI,WJ,WK,WL,WM,WN,WO,WP,WQ,WR,WS,WT,WU,WV,WW,WX,WY,WZ,W0,W1,W2,W3,W4,W5,W6,W7,W8,W9,Xa,Xb,Xc,Xd,Xe,Xf,Xg,Xh,Xi,Xj,Xk,Xl,Xm,Xn,Xo,Xp,Xq,Xr,Xs,Xt,Xu,Xv,Xw,Xx,Xy,Xz,XA,XB,XC,XD,XE,XF,XG,XH,XI,XJ,undef],[]⟩) Q0) ⟨#[.string ⟨s.toArray⟩,.bool en,undef,undef,.pointer (some ⟨w0.heap.size,0,none⟩),.pointer (some ⟨w0.heap.size + 1,0,none⟩),.int .i64 (p:Nat),Uh,Ui,Uj,Uk,Ul,Um,Un,Uo,Up,Uq,Ur,Us,Ut,Uu,Uv,Uw,Ux,Uy,Uz,UA,UB,UC,UD,UE,UF,UG,UH,UI,UJ,UK,UL,UM,UN,UO,UP,UQ,UR,US,UT,UU,UV,UW,UX,UY,UZ,U0,U1,U2,U3,U4,U5,U6,U7,U8,U9,Va,Vb,Vc,Vd,Ve,Vf,Vg,Vh,Vi,Vj,Vk,Vl,Vm,Vn,Vo,Vp,Vq,Vr,Vs,Vt,Vu,Vv,Vw,Vx,Vy,Vz,VA,VB,VC,VD,VE,VF,VG,VH,VI,VJ,VK,VL,VM,VN,VO,VP,VQ,VR,VS,VT,VU,VV,VW,VX,VY,VZ,V0,V1,V2,V3,V4,V5,V6,V7,V8,V9,Wa,Wb,Wc,Wd,We,Wf,Wg,Wh,Wi,Wj,Wk,Wl,Wm,Wn,Wo,Wp,Wq,Wr,Ws,Wt,Wu,Wv,Ww,Wx,Wy,Wz,WA,WB,WC,WD,WE,WF,WG,WH,WI,WJ,WK,WL,WM,WN,WO,WP,WQ,WR,WS,WT,WU,WV,WW,WX,WY,WZ,W0,W1,W2,W3,W4,W5,W6,W7,W8,W9,Xa,Xb,Xc,Xd,Xe,Xf,Xg,Xh,Xi,Xj,Xk,Xl,Xm,Xn,Xo,Xp,Xq,Xr,Xs,Xt,Xu,Xv,Xw,Xx,Xy,Xz,XA,XB,XC,XD,XE,XF,XG,XH,XI,XJ,undef],[]⟩ wr:=by
  conv=>arg 2;whnf
  obtain ⟨c,hc⟩:∃ c,s[p] = c:=⟨_,rfl⟩
  have hget:=get_c s p c hp hc
  have hpI:(p:Int) < (s.length:Int):=by omega
  have hgd:s.getD p 0 = c:=by rw [getD_at hp,hc]
  have d0:decide (p < s.length) = true:=decide_eq_true hp
  have d1:decide ((p:Int) < (s.length:Int)) = true:=decide_eq_true hpI
  have HP:=Lib.hid hp
  have HQ0:=Lib.hid hQ
  clear hQ
  subst hnb
  have hit:item flP s en p = .tok ⟨p,nP,.num x⟩ q:=by unfold item;rw [if_neg (by rw [hb];simp),if_neg (by rw [hm];simp),if_neg (by rw [hw];simp),if_neg hq,if_neg (fun h=>hcd.elim h.1 (fun e=>by rw [h.2] at e;cases e))];unfold numI;rw [hN];dsimp only;rw [hpn];rw [if_neg (by simp),if_neg (no_wait hql),hfl]
  have HCD:=Lib.hid (by rw [hgd] at hcd;exact hcd:c = 45 ∨ isD c = true)
  have hlen:=numP_le (s.drop p)
  rw [hN,List.length_drop] at hlen
  have hpos:=numP_pos (t:=s.drop p) (drop_at hp) (by rw [← hc,← getD_at hp] at *;exact hcd)
  rw [hN] at hpos
  dsimp only at hlen hpos
  rw [hgd] at hb hm hw hq hcd
  have HBL:=Lib.hid (fun W=>rblank_any c W)
  rw [hb] at HBL
  have HMK:=Lib.hid (fun W=>rmark_no c W hm)
  have HNM:=Lib.hid (fun W=>rname_any c W)
  rw [hw] at HNM
  have HDG:=Lib.hid (fun W=>ldigit_any s p W (by omega) (by omega))
  have hda:dAt s p = isD c:=dAt_of (c:=c) (by rw [List.getElem?_eq_getElem hp,hc])
  rw [hda] at HDG
  unfold sv at HDG
  have HNU:=Lib.hid (fun W=>rnum_any s p W hp hs)
  rw [numV_of hN hpn] at HNU
  unfold sv at HNU
  have q34:((c.toNat:Int) == 34) = false:=u8_ne (k:=34) (by decide) hq
  have hpb:(p:Int) ≤ 1000000000000:=by omega
  have hqb:(q:Int) ≤ 1000000000000:=by omega
  have HR:=Lib.hid hr
  have hsl:=hr.2.2.2.2.1.lt
  have hsz:=hr.2.2.2.2.2.2.size
  obtain ⟨A,cc,rfl,_⟩:=own_shape9 hr.2.2.2.1
  have hTL:toks.length ≤ s.length:=by have:=hr.2.2.1;omega
  have HTL:=Lib.hid (show toks.length ≤ 1000000000000 by omega)
  have hraw:=numP_raw (t:=s.drop p) (by rw [hN])
  rw [hN] at hraw
  dsimp only at hraw
  have hcl:cutL s p q = (s.drop p).take nP:=by unfold cutL;rw [show q - p = nP by omega]
  obtain ⟨raw,hrw⟩:∃ raw,(s.drop p).take nP = raw:=⟨_,rfl⟩
  rw [hrw] at hcl hraw hfl
  have hrl:raw.length ≤ 1000000000000:=by rw [← hrw,List.length_take];omega
  have HFL:=Lib.hid (fun W=>rflo_any raw W hrl hraw)
  rw [hfl] at HFL
  unfold roundR at HFL
  have HEX:=Lib.hid (fun W=>(run_cutStr s p q (by omega) (by omega) W).trans (by rw [ext_cut,hcl]))
  have hcut:=HEX.out
  have hcut2:∀ W:World,(Instr.slice 9 (.string ⟨s.toArray⟩) (some (.int .i64 (p:Nat))) (some (.int .i64 (q:Nat))) none).run Tryz.prog W = .ok (.string ⟨raw.toArray⟩) W:=fun W=>(run_sliceAt_string W _ _ _ _ _ Tryz.underlying9).symm.trans (hcut W)
  have HRD:=Lib.hid (rdF_tok hp hit (by omega))
  have HQL:=Lib.hid hql
  have HQS:=Lib.hid (show q ≤ s.length by omega)
  have HPQ:=Lib.hid (show p < q by omega)
  have HSZ:=Lib.hid (show w0.heap.size + 2 ≤ wr.heap.size by have:=hr.2.2.2.2.2.1.lt;omega)
  have hqI:(q:Int) - (p:Int) = (nP:Int):=by omega
  have hwz:IntKind.i64.wrap (nP:Int) = (nP:Int):=IntWalk.i64_in _ (by omega)
  clear hrw hcl hraw hfl hrl hql hpn
  clear hit hb hm hgd hc hs hr hw hq hda hN hlen hpos hcd
  go_wp2_with fail
  refine (HBL.out _).mono ?_
  rintro e w1 ⟨rfl,rfl⟩
  go_wp2_with fail
  refine (HMK.out _).mono ?_
  rintro e w1 ⟨rfl,rfl⟩
  go_wp2_with fail
  refine (HNM.out _).mono ?_
  rintro e w1 ⟨rfl,rfl⟩
  by_cases h45:c = 45
  case' pos =>
    have q45:((c.toNat:Int) != 45) = false:=by rw [h45];rfl
    clear h45
    go_wp2_with fail
  case' neg =>
    have q45':((c.toNat:Int) == 45) = false:=u8_ne (k:=45) (by decide) h45
    have q45:((c.toNat:Int) != 45) = true:=by rw [bne,q45'];rfl
    rw [HCD.out.resolve_left h45] at HDG
    clear h45 q45'
    go_wp2_with fail
    refine (HDG.out _).mono ?_
    rintro e w1 ⟨rfl,rfl⟩
    go_wp2_with fail
  all_goals
    refine (HNU.out _).mono ?_
    rintro e w1 ⟨rfl,rfl⟩
    have hcond:(((q:Int) == (s.length:Int)) = false ∧ (q == s.length) = false) ∨ (((q:Int) == (s.length:Int)) = true ∧ (q == s.length) = true ∧ en = true):=by
      rcases Nat.lt_or_ge q s.length with h | h
      · exact .inl ⟨by simp;omega,by simp;omega⟩
      · right
        have hqe:=HQL.out (Nat.le_antisymm HQS.out h)
        exact ⟨by have:=HQS.out;simp;omega,by have:=HQS.out;simp;omega,hqe⟩
    rcases hcond with ⟨e2,e2'⟩ | ⟨e2,e2',rfl⟩
    all_goals
      go_wp2_with fail
      refine (HFL.out _).mono ?_
      rintro e w1 ⟨rfl,hb1⟩
      clear e2 e2'
      have HBW:=Lib.hid hb1
      obtain ⟨⟨m0,m1,m2,m3,m4⟩,⟨n0,n1,n2,n3,n4⟩,⟨f0,f1,f2,f3,f4⟩,⟨g0,g1,g2,g3,g4⟩⟩:=r9_cells HR.out HBW.out
      have hnb:=Blk.new w1 60 #[.int .i64 3,.int .i64 (p:Nat),.int .i64 (nP:Nat),.string ⟨#[]⟩,.int .u64 (x:Nat)]
      try rw [World.size_alloc] at hnb
      have HNB:=Lib.hid hnb
      clear hnb
      have hownW:=own_below9 (r9_below HR.out HBW.out).2.2.2.1 (Below.refl _ _)
      have HOWN:=Lib.hid (hownW.alloc (.cells #[.int .i64 3,.int .i64 (p:Nat),.int .i64 (nP:Nat),.string ⟨#[]⟩,.int .u64 (x:Nat)] 60))
      have HB5:=Lib.hid ((r9_below HR.out HBW.out).2.2.2.2.2.1.alloc (.cells #[.int .i64 3,.int .i64 (p:Nat),.int .i64 (nP:Nat),.string ⟨#[]⟩,.int .u64 (x:Nat)] 60))
      have HWB:=Lib.hid (HBW.out.alloc HBW.out.size (.cells #[.int .i64 3,.int .i64 (p:Nat),.int .i64 (nP:Nat),.string ⟨#[]⟩,.int .u64 (x:Nat)] 60))
      have HSA:=Lib.hid (Nat.le_trans (show w0.heap.size + 2 ≤ (w1).heap.size by have:=HBW.out.size;have:=HSZ.out;omega) (show (w1).heap.size ≤ ((w1).alloc (.cells #[.int .i64 3,.int .i64 (p:Nat),.int .i64 (nP:Nat),.string ⟨#[]⟩,.int .u64 (x:Nat)] 60)).heap.size by simp))
      clear hownW
      go_wp2_with (at_builtin;refine wpList_tok9 rfl (.tmp 211) (.tmp 218) rfl (w0.heap.size + 2) _ toks.length (toks.flatMap tokR) rfl HOWN.out _ _ rfl [.int .i64 3,.int .i64 (p:Nat),.int .i64 (nP:Nat),.string ⟨#[]⟩,.int .u64 (x:Nat)] rfl (by simp [Value.oneCell']) HNB.out (by have:=HTL.out;omega) HSA.out ?_;intro g cap w2 hown2 hg2;have hb2:=HB5.out.grown hg2 (fun hk=>by have:=(HOWN.out.lt _ hk.symm).1;omega);have k0:=(cells5 hb2).1;have kf:=hb2.frozen 0;have HOWN2:=Lib.hid hown2;have HG2:=Lib.hid hg2;clear hown2 hg2 hb2)
      refine ⟨?_,by have:=HPQ.out;have:=HQS.out;simp [mu9,intOf];omega⟩
      unfold WI9
      refine ⟨_,_,_,_,_,_,_,_,_,_,_,_,_,_,_,_,_,_,_,_,_,_,_,_,_,_,_,_,_,_,_,_,_,_,_,_,_,_,_,_,_,_,_,_,_,_,_,_,_,_,_,_,_,_,_,_,_,_,_,_,_,_,_,_,_,_,_,_,_,_,_,_,_,_,_,_,_,_,_,_,_,_,_,_,_,_,_,_,_,_,_,_,_,_,_,_,_,_,_,_,_,_,_,_,_,_,_,_,_,_,_,_,_,_,_,_,_,_,_,_,_,_,_,_,_,_,_,_,_,_,_,_,_,_,_,_,_,_,_,_,_,_,_,_,_,_,_,_,_,_,_,_,_,_,_,_,_,_,_,_,_,_,_,_,_,_,_,_,_,_,_,_,_,_,_,_,_,_,_,_,_,_,_,_,_,_,_,_,_,_,_,_,_,_,_,_,_,_,_,_,_,_,_,_,_,_,_,_,_,_,_,_,_,_,_,_,⟨q,toks ++ [⟨p,nP,.num x⟩],_,trivial,rfl,r9_push (t:=⟨p,nP,.num x⟩) HR.out HRD.out HPQ.out HQS.out HWB.out HOWN2.out HG2.out⟩,rfl⟩
end Go.Proofs.YtgmholdkdppbmaaGreatDoor.Lx

namespace Go.Proofs.YtgmholdkdppbmaaGreatDoor.Lx
open Go.RowKit Go.Shelf
attribute [local go_sem ↓] Go.wp_at_zero Go.wp_at_succ
theorem cpl_at:∀ (a b:List UInt8) (j:Nat),j < cpl a b → ∃ c,a[j]? = some c ∧ b[j]? = some c
  | [],_,j,h=>by simp [cpl] at h
  | _ :: _,[],j,h=>by simp [cpl] at h
  | x :: a,y :: b,j,h=>by
    unfold cpl at h
    by_cases e:x = y
    · rw [if_pos e] at h
      cases j with
      | zero=>exact ⟨x,rfl,by rw [e];rfl⟩
      | succ j=>exact cpl_at a b j (by omega)
    · rw [if_neg e] at h;omega
theorem cpl_stop:∀ (a b:List UInt8) (c d:UInt8),a[cpl a b]? = some c → b[cpl a b]? = some d → c ≠ d
  | [],_,c,d,h,_=>by simp at h
  | _ :: _,[],c,d,_,h=>by simp at h
  | x :: a,y :: b,c,d,h,k=>by
    unfold cpl at h k
    by_cases e:x = y
    · rw [if_pos e] at h k
      exact cpl_stop a b c d (by simpa using h) (by simpa using k)
    · rw [if_neg e] at h k
      simp at h k
      rw [← h,← k];exact e
theorem word_len (c:UInt8):(wordOf c).length ≤ 5:=by unfold wordOf;(repeat' split) <;> decide
theorem byte_eq (c d:UInt8):((c.toNat:Int) == (d.toNat:Int)) = decide (c = d):=by
  by_cases h:c = d
  · subst h;simp
  · have:c.toNat ≠ d.toNat:=fun e=>h (UInt8.toNat_inj.1 e)
    rw [decide_eq_false h];simp;omega
set_option maxRecDepth 1000000 in
set_option maxHeartbeats 8000000 in
theorem case_word (s:List UInt8) (en:Bool) (w0 wr:World) (p:Nat) (toks:List Tok) (v:Value) (Uh Ui Uj Uk Ul Um Un Uo Up Uq Ur Us Ut Uu Uv Uw Ux Uy Uz UA UB UC UD UE UF UG UH UI UJ UK UL UM UN UO UP UQ UR US UT UU UV UW UX UY UZ U0 U1 U2 U3 U4 U5 U6 U7 U8 U9 Va Vb Vc Vd Ve Vf Vg Vh Vi Vj Vk Vl Vm Vn Vo Vp Vq Vr Vs Vt Vu Vv Vw Vx Vy Vz VA VB VC VD VE VF VG VH VI VJ VK VL VM VN VO VP VQ VR VS VT VU VV VW VX VY VZ V0 V1 V2 V3 V4 V5 V6 V7 V8 V9 Wa Wb Wc Wd We Wf Wg Wh Wi Wj Wk Wl Wm Wn Wo Wp Wq Wr Ws Wt Wu Wv Ww Wx Wy Wz WA WB WC WD WE WF WG WH WI WJ WK WL WM WN WO WP WQ WR WS WT WU WV WW WX WY WZ W0 W1 W2 W3 W4 W5 W6 W7 W8 W9 Xa Xb Xc Xd Xe Xf Xg Xh Xi Xj Xk Xl Xm Xn Xo Xp Xq Xr Xs Xt Xu Xv Xw Xx Xy Xz XA XB XC XD XE XF XG XH XI XJ:Value) (Q0:Exit → Act → World → Prop) (hs:s.length ≤ 1000000000000) (hp:p < s.length) (hr:R9 s en w0 p toks v wr)
    (W:List UInt8) (n:Nat) (hb:blankB (s.getD p 0) = false) (hm:markB (s.getD p 0) = false) (hw:wordOf (s.getD p 0) = W) (hwn:W ≠ []) (hn:cpl W (s.drop p) = n) (hQ:∀ x a w',RD9 s en w0 x a w' → Q0 x a w'):Code.wp Tryz.prog body9 (Exit.then (fun a' w''=>WI9 s en w0 (fun _=>True) a' w'' ∧ mu9 s a' < mu9 s ⟨#[.string ⟨s.toArray⟩,.bool en,undef,undef,.pointer (some ⟨w0.heap.size,0,none⟩),.pointer (some ⟨w0.heap.size + 1,0,none⟩),.int .i64 (p:Nat),Uh,Ui,Uj,Uk,Ul,Um,Un,Uo,Up,Uq,Ur,Us,Ut,Uu,Uv,Uw,Ux,Uy,Uz,UA,UB,UC,UD,UE,UF,UG,UH,UI,UJ,UK,UL,UM,UN,UO,UP,UQ,UR,US,UT,UU,UV,UW,UX,UY,UZ,U0,U1,U2,U3,U4,U5,U6,U7,U8,U9,Va,Vb,Vc,Vd,Ve,Vf,Vg,Vh,Vi,Vj,Vk,Vl,Vm,Vn,Vo,Vp,Vq,Vr,Vs,Vt,Vu,Vv,Vw,Vx,Vy,Vz,VA,VB,VC,VD,VE,VF,VG,VH,VI,VJ,VK,VL,VM,VN,VO,VP,VQ,VR,VS,VT,VU,VV,VW,VX,VY,VZ,V0,V1,V2,V3,V4,V5,V6,V7,V8,V9,Wa,Wb,Wc,Wd,We,Wf,Wg,Wh,Wi,Wj,Wk,Wl,Wm,Wn,Wo,Wp,Wq,Wr,Ws,Wt,Wu,Wv,Ww,Wx,Wy,Wz,WA,WB,WC,WD,WE,WF,WG,WH,WI,WJ,WK,WL,WM,WN,WO,WP,WQ,WR,WS,WT,WU,WV,WW,WX,WY,WZ,W0,W1,W2,W3,W4,W5,W6,W7,W8,W9,Xa,Xb,Xc,Xd,Xe,Xf,Xg,Xh,Xi,Xj,Xk,Xl,Xm,Xn,Xo,Xp,Xq,Xr,Xs,Xt,Xu,Xv,Xw,Xx,Xy,Xz,XA,XB,XC,XD,XE,XF,XG,XH,XI,XJ,undef],[]⟩) Q0) ⟨#[.string ⟨s.toArray⟩,.bool en,undef,undef,.pointer (some ⟨w0.heap.size,0,none⟩),.pointer (some ⟨w0.heap.size + 1,0,none⟩),.int .i64 (p:Nat),Uh,Ui,Uj,Uk,Ul,Um,Un,Uo,Up,Uq,Ur,Us,Ut,Uu,Uv,Uw,Ux,Uy,Uz,UA,UB,UC,UD,UE,UF,UG,UH,UI,UJ,UK,UL,UM,UN,UO,UP,UQ,UR,US,UT,UU,UV,UW,UX,UY,UZ,U0,U1,U2,U3,U4,U5,U6,U7,U8,U9,Va,Vb,Vc,Vd,Ve,Vf,Vg,Vh,Vi,Vj,Vk,Vl,Vm,Vn,Vo,Vp,Vq,Vr,Vs,Vt,Vu,Vv,Vw,Vx,Vy,Vz,VA,VB,VC,VD,VE,VF,VG,VH,VI,VJ,VK,VL,VM,VN,VO,VP,VQ,VR,VS,VT,VU,VV,VW,VX,VY,VZ,V0,V1,V2,V3,V4,V5,V6,V7,V8,V9,Wa,Wb,Wc,Wd,We,Wf,Wg,Wh,Wi,Wj,Wk,Wl,Wm,Wn,Wo,Wp,Wq,Wr,Ws,Wt,Wu,Wv,Ww,Wx,Wy,Wz,WA,WB,WC,WD,WE,WF,WG,WH,WI,WJ,WK,WL,WM,WN,WO,WP,WQ,WR,WS,WT,WU,WV,WW,WX,WY,WZ,W0,W1,W2,W3,W4,W5,W6,W7,W8,W9,Xa,Xb,Xc,Xd,Xe,Xf,Xg,Xh,Xi,Xj,Xk,Xl,Xm,Xn,Xo,Xp,Xq,Xr,Xs,Xt,Xu,Xv,Xw,Xx,Xy,Xz,XA,XB,XC,XD,XE,XF,XG,XH,XI,XJ,undef],[]⟩ wr:=by
  conv=>arg 2;whnf
  obtain ⟨c,hc⟩:∃ c,s[p] = c:=⟨_,rfl⟩
  have hget:=get_c s p c hp hc
  have hpI:(p:Int) < (s.length:Int):=by omega
  have hgd:s.getD p 0 = c:=by rw [getD_at hp,hc]
  have d0:decide (p < s.length) = true:=decide_eq_true hp
  have d1:decide ((p:Int) < (s.length:Int)) = true:=decide_eq_true hpI
  have HP:=Lib.hid hp
  have HQ0:=Lib.hid hQ
  clear hQ
  have hit:item flP s en p = wordI s p W:=by unfold item;rw [if_neg (by rw [hb];simp),if_neg (by rw [hm];simp),if_pos (by rw [hw];exact hwn),hw]
  unfold wordI at hit
  rw [hn] at hit
  have HWN:=Lib.hid hwn
  have hwe:W.isEmpty = false:=by
    cases W with
    | nil=>exact absurd rfl hwn
    | cons a l=>rfl
  have hWl:W.length ≤ 5:=by rw [← hw];exact word_len _
  have hcl:=cpl_le W (s.drop p)
  rw [hn,List.length_drop] at hcl
  have hat:=cpl_at W (s.drop p)
  have hst:=cpl_stop W (s.drop p)
  rw [hn] at hat hst
  rw [hgd] at hb hm hw
  have HBL:=Lib.hid (fun W=>rblank_any c W)
  rw [hb] at HBL
  have HMK:=Lib.hid (fun W=>rmark_no c W hm)
  have HNM:=Lib.hid (fun W=>rname_any c W)
  rw [hw] at HNM
  have HR:=Lib.hid hr
  have hsl:=hr.2.2.2.2.1.lt
  have hsz:=hr.2.2.2.2.2.2.size
  obtain ⟨A,cc,rfl,_⟩:=own_shape9 hr.2.2.2.1
  have hTL:toks.length ≤ s.length:=by have:=hr.2.2.1;omega
  have HTL:=Lib.hid (show toks.length ≤ 1000000000000 by omega)
  have HIT:=Lib.hid hit
  have HAT:=Lib.hid hat
  have HST:=Lib.hid hst
  have HCL:=Lib.hid hcl
  have HWL:=Lib.hid hWl
  have HS:=Lib.hid hs
  have HSZ:=Lib.hid (show w0.heap.size + 2 ≤ wr.heap.size by have:=hr.2.2.2.2.2.1.lt;omega)
  have hpb:(p:Int) ≤ 1000000000000:=by omega
  have hsb:(s.length:Int) ≤ 1000000000000:=by omega
  have hWb:(W.length:Int) ≤ 5:=by omega
  clear hit hb hm hgd hc hs hr hw hn hWl hcl hat hst
  go_wp2_with fail
  refine (HBL.out _).mono ?_
  rintro e w1 ⟨rfl,rfl⟩
  go_wp2_with fail
  refine (HMK.out _).mono ?_
  rintro e w1 ⟨rfl,rfl⟩
  go_wp2_with fail
  refine (HNM.out _).mono ?_
  rintro e w1 ⟨rfl,rfl⟩
  go_wp2_with fail
  refine (HNM.out _).mono ?_
  rintro e w1 ⟨rfl,rfl⟩
  clear hwn hwe
  go_wp2_with fail
  obtain ⟨wq,hwq⟩:∃ wq:World,wq = wr:=⟨_,rfl⟩
  subst hwq
  go_loopw [9] (fun k wi=>∃ j:Nat,k = .int .i64 (j:Nat) ∧ j ≤ n ∧ Below wq.heap.size wq wi) (fun k _=>n - (intOf k).toNat)
  case atStart=>exact ⟨0,rfl,by omega,Below.refl _ _⟩
  case round =>
    obtain ⟨j,rfl,hj,hbn⟩:=hrel
    have HBN:=Lib.hid hbn
    clear hbn
    obtain ⟨pj,hpj⟩:∃ pj,p + j = pj:=⟨_,rfl⟩
    have hpjI:(p:Int) + (j:Int) = (pj:Int):=by omega
    have hcl:=HCL.out
    have hwpj:IntKind.i64.wrap (pj:Int) = (pj:Int):=IntWalk.i64_in _ (by omega)
    rcases Nat.lt_or_ge j n with hlt | hge
    · have hjW:(j:Int) < (W.length:Int):=by omega
      have hps:(pj:Int) < (s.length:Int):=by omega
      have a1:decide ((j:Int) < (W.length:Int)) = true:=decide_eq_true hjW
      have a1':decide (j < W.length) = true:=decide_eq_true (by omega)
      have a2:decide ((pj:Int) < (s.length:Int)) = true:=decide_eq_true hps
      have a2':decide (pj < s.length) = true:=decide_eq_true (by omega)
      obtain ⟨d,hd1,hd2⟩:=HAT.out j hlt
      have g1:=get_c s pj d (by omega) (by rw [List.getElem?_drop,hpj] at hd2;exact (List.getElem?_eq_some_iff.1 hd2).2)
      have g2:=get_c W j d (by omega) (List.getElem?_eq_some_iff.1 hd1).2
      have a3:((d.toNat:Int) == (d.toNat:Int)) = true:=by simp
      have HLT:=Lib.hid hlt
      clear hlt hd1 hd2 hpj hcl hj
      go_wp2_with fail
      go_quiet (fail)
      have HBq:=Lib.hid (below_drewN HBN.out nq)
      go_wp2_with fail
      go_roundw
      case rel=>exact ⟨j + 1,by go_num,by have:=HLT.out;omega,HBq.out⟩
      case measure=>have:=HLT.out;simp [intOf];omega
    · have hjn:j = n:=by omega
      subst hjn
      by_cases hA:j < W.length
      · have hjW:(j:Int) < (W.length:Int):=by omega
        have a1:decide ((j:Int) < (W.length:Int)) = true:=decide_eq_true hjW
        have a1':decide (j < W.length) = true:=decide_eq_true hA
        by_cases hB:pj < s.length
        · have hps:(pj:Int) < (s.length:Int):=by omega
          have a2:decide ((pj:Int) < (s.length:Int)) = true:=decide_eq_true hps
          have a2':decide (pj < s.length) = true:=decide_eq_true hB
          have hit:=HIT.out
          rw [if_pos hA,hpj,if_pos hB] at hit
          have HRD:=Lib.hid (rdF_bad HP.out hit)
          obtain ⟨d1,hd1⟩:∃ d,s[pj] = d:=⟨_,rfl⟩
          obtain ⟨d2,hd2⟩:∃ d,W[j] = d:=⟨_,rfl⟩
          have g1:=get_c s pj d1 hB hd1
          have g2:=get_c W j d2 hA hd2
          have hne:d1 ≠ d2:=Ne.symm (HST.out d2 d1 (by rw [List.getElem?_eq_getElem hA,hd2]) (by rw [List.getElem?_drop,hpj,List.getElem?_eq_getElem hB,hd1]))
          have a3:((d1.toNat:Int) == (d2.toNat:Int)) = false:=by rw [byte_eq,decide_eq_false hne]
          have HWR:=Lib.hid (fun W=>rwrong9 (.slice A toks.length cc) (.int .i64 0) (.int .i64 0) (.int .i64 0) (.int .i64 0) 94 pj W ⟨A,_,cc,rfl⟩)
          clear hit hd1 hd2 hne hpj hcl hj hge
          go_wp2_with fail
          go_quiet (fail)
          have HBq:=Lib.hid (below_drewN HBN.out nq)
          obtain ⟨⟨m0,m1,m2,m3,m4⟩,⟨n0,n1,n2,n3,n4⟩,⟨f0,f1,f2,f3,f4⟩,⟨g0,g1,g2,g3,g4⟩⟩:=r9_cells HR.out HBq.out
          go_wp2_with fail
          clear m0 m1 m2 m3 m4 n0 n1 n2 n3 n4 f0 f1 f2 f3 f4 g0
          refine (HWR.out _).mono ?_
          rintro e w2 ⟨rfl,hb2⟩
          have hbX:=keepb HBq.out hb2
          obtain ⟨⟨m0,m1,m2,m3,m4⟩,⟨n0,n1,n2,n3,n4⟩,⟨f0,f1,f2,f3,f4⟩,⟨g0,g1,g2,g3,g4⟩⟩:=r9_cells HR.out hbX
          go_wp2_with fail
          exact HQ0.out _ _ _ (.inl ⟨rfl,rfl,rfl,r9_ret HR.out hbX HRD.out⟩)
        · have a2:decide ((pj:Int) < (s.length:Int)) = false:=decide_eq_false (by omega)
          have a2':decide (pj < s.length) = false:=decide_eq_false hB
          have hit:=HIT.out
          rw [if_pos hA,hpj,if_neg hB] at hit
          have hcut:=rdF_cut HP.out hit
          have HCY:=Lib.hid (fun W=>rcut_yes (.slice A toks.length cc) (.int .i64 0) (.int .i64 0) (.int .i64 0) (.int .i64 0) s p W ⟨A,_,cc,rfl⟩ HS.out)
          have HCN:=Lib.hid (fun W=>rcut_no (.slice A toks.length cc) s p W ⟨A,_,cc,rfl⟩ HS.out (by have:=HP.out;omega))
          have HCUT:=Lib.hid hcut
          clear hit hcut hpj hcl hj hge
          go_wp2_with fail
          go_quiet (fail)
          have HBW:=Lib.hid (below_drewN HBN.out nq)
          cases en
          · have HRD:Hid (rdF flP s false p = ⟨[],0,0,0,s.length - p⟩):=Lib.hid (by rw [HCUT.out];rfl)
            obtain ⟨⟨m0,m1,m2,m3,m4⟩,⟨n0,n1,n2,n3,n4⟩,⟨f0,f1,f2,f3,f4⟩,⟨g0,g1,g2,g3,g4⟩⟩:=r9_cells HR.out HBW.out
            go_wp2_with fail
            clear m0 m1 m2 m3 m4 n0 n1 n2 n3 n4 f0 f1 f2 f3 f4 g0 g1 g2 g3 g4
            refine (HCN.out _).mono ?_
            rintro e w2 ⟨rfl,hb2⟩
            have hbX:=keepb HBW.out hb2
            obtain ⟨⟨m0,m1,m2,m3,m4⟩,⟨n0,n1,n2,n3,n4⟩,⟨f0,f1,f2,f3,f4⟩,⟨g0,g1,g2,g3,g4⟩⟩:=r9_cells HR.out hbX
            go_wp2_with fail
            exact HQ0.out _ _ _ (.inl ⟨rfl,rfl,rfl,r9_ret HR.out hbX HRD.out⟩)
          · have HRD:Hid (rdF flP s true p = ⟨[],95,s.length,s.length,0⟩):=Lib.hid (by rw [HCUT.out];rfl)
            obtain ⟨⟨m0,m1,m2,m3,m4⟩,⟨n0,n1,n2,n3,n4⟩,⟨f0,f1,f2,f3,f4⟩,⟨g0,g1,g2,g3,g4⟩⟩:=r9_cells HR.out HBW.out
            go_wp2_with fail
            clear m0 m1 m2 m3 m4 n0 n1 n2 n3 n4 f0 f1 f2 f3 f4 g0 g1 g2 g3 g4
            refine (HCY.out _).mono ?_
            rintro e w2 ⟨rfl,hb2⟩
            have hbX:=keepb HBW.out hb2
            obtain ⟨⟨m0,m1,m2,m3,m4⟩,⟨n0,n1,n2,n3,n4⟩,⟨f0,f1,f2,f3,f4⟩,⟨g0,g1,g2,g3,g4⟩⟩:=r9_cells HR.out hbX
            go_wp2_with fail
            exact HQ0.out _ _ _ (.inl ⟨rfl,rfl,rfl,r9_ret HR.out hbX HRD.out⟩)
      · have a1:decide ((j:Int) < (W.length:Int)) = false:=decide_eq_false (by omega)
        have a1':decide (j < W.length) = false:=decide_eq_false hA
        have hit:=HIT.out
        rw [if_neg hA,hpj] at hit
        have hjp:0 < j:=by have:=List.length_pos_iff.2 HWN.out;omega
        have HRD:=Lib.hid (rdF_tok HP.out hit (by omega))
        have HPQ:=Lib.hid (show p < pj by omega)
        have HQS:=Lib.hid (show pj ≤ s.length by have:=HP.out;omega)
        clear hit hpj hcl hj hge hjp
        go_wp2_with fail
        go_quiet (fail)
        have HBW:=Lib.hid (below_drewN HBN.out nq)
        obtain ⟨⟨m0,m1,m2,m3,m4⟩,⟨n0,n1,n2,n3,n4⟩,⟨f0,f1,f2,f3,f4⟩,⟨g0,g1,g2,g3,g4⟩⟩:=r9_cells HR.out HBW.out
        have hnb:Blk ((wr.drewN nq).alloc (.cells #[.int .i64 2,.int .i64 (p:Nat),.int .i64 (j:Nat),.string ⟨W.toArray⟩,.int .u64 0] 60)) wr.heap.size 60 #[.int .i64 2,.int .i64 (p:Nat),.int .i64 (j:Nat),.string ⟨W.toArray⟩,.int .u64 0]:=Blk.new _ _ _
        try rw [World.size_alloc] at hnb
        have HNB:=Lib.hid hnb
        clear hnb
        have hownW:=own_below9 (r9_below HR.out HBW.out).2.2.2.1 (Below.refl _ _)
        have HOWN:=Lib.hid (hownW.alloc (.cells #[.int .i64 2,.int .i64 (p:Nat),.int .i64 (j:Nat),.string ⟨W.toArray⟩,.int .u64 0] 60))
        have HB5:=Lib.hid ((r9_below HR.out HBW.out).2.2.2.2.2.1.alloc (.cells #[.int .i64 2,.int .i64 (p:Nat),.int .i64 (j:Nat),.string ⟨W.toArray⟩,.int .u64 0] 60))
        have HWB:=Lib.hid (HBW.out.alloc HBW.out.size (.cells #[.int .i64 2,.int .i64 (p:Nat),.int .i64 (j:Nat),.string ⟨W.toArray⟩,.int .u64 0] 60))
        have HSA:=Lib.hid (Nat.le_trans (show w0.heap.size + 2 ≤ ((wr.drewN nq)).heap.size by have:=HBW.out.size;have:=HSZ.out;omega) (show ((wr.drewN nq)).heap.size ≤ (((wr.drewN nq)).alloc (.cells #[.int .i64 2,.int .i64 (p:Nat),.int .i64 (j:Nat),.string ⟨W.toArray⟩,.int .u64 0] 60)).heap.size by simp))
        clear hownW
        go_wp2_with (at_builtin;refine wpList_tok9 rfl (.tmp 101) (.tmp 106) rfl (w0.heap.size + 2) _ toks.length (toks.flatMap tokR) rfl HOWN.out _ _ rfl [.int .i64 2,.int .i64 (p:Nat),.int .i64 (j:Nat),.string ⟨W.toArray⟩,.int .u64 0] rfl (by simp [Value.oneCell']) HNB.out (by have:=HTL.out;omega) HSA.out ?_;intro g cap w2 hown2 hg2;have hb2:=HB5.out.grown hg2 (fun hk=>by have:=(HOWN.out.lt _ hk.symm).1;omega);have k0:=(cells5 hb2).1;have kf:=hb2.frozen 0;have HOWN2:=Lib.hid hown2;have HG2:=Lib.hid hg2;clear hown2 hg2 hb2)
        refine ⟨?_,by have:=HPQ.out;have:=HQS.out;simp [mu9,intOf];omega⟩
        unfold WI9
        refine ⟨_,_,_,_,_,_,_,_,_,_,_,_,_,_,_,_,_,_,_,_,_,_,_,_,_,_,_,_,_,_,_,_,_,_,_,_,_,_,_,_,_,_,_,_,_,_,_,_,_,_,_,_,_,_,_,_,_,_,_,_,_,_,_,_,_,_,_,_,_,_,_,_,_,_,_,_,_,_,_,_,_,_,_,_,_,_,_,_,_,_,_,_,_,_,_,_,_,_,_,_,_,_,_,_,_,_,_,_,_,_,_,_,_,_,_,_,_,_,_,_,_,_,_,_,_,_,_,_,_,_,_,_,_,_,_,_,_,_,_,_,_,_,_,_,_,_,_,_,_,_,_,_,_,_,_,_,_,_,_,_,_,_,_,_,_,_,_,_,_,_,_,_,_,_,_,_,_,_,_,_,_,_,_,_,_,_,_,_,_,_,_,_,_,_,_,_,_,_,_,_,_,_,_,_,_,_,_,_,_,_,_,_,_,_,_,_,⟨pj,toks ++ [⟨p,j,.term W⟩],_,trivial,rfl,r9_push (t:=⟨p,j,.term W⟩) HR.out HRD.out HPQ.out HQS.out HWB.out HOWN2.out HG2.out⟩,rfl⟩
end Go.Proofs.YtgmholdkdppbmaaGreatDoor.Lx

namespace Go.Proofs.YtgmholdkdppbmaaGreatDoor.Lx
open Go.RowKit Go.Shelf
attribute [local go_sem ↓] Go.wp_at_zero Go.wp_at_succ
theorem read9_round (s:List UInt8) (en:Bool) (w0 wr:World) (p:Nat) (toks:List Tok) (v:Value) (Uh Ui Uj Uk Ul Um Un Uo Up Uq Ur Us Ut Uu Uv Uw Ux Uy Uz UA UB UC UD UE UF UG UH UI UJ UK UL UM UN UO UP UQ UR US UT UU UV UW UX UY UZ U0 U1 U2 U3 U4 U5 U6 U7 U8 U9 Va Vb Vc Vd Ve Vf Vg Vh Vi Vj Vk Vl Vm Vn Vo Vp Vq Vr Vs Vt Vu Vv Vw Vx Vy Vz VA VB VC VD VE VF VG VH VI VJ VK VL VM VN VO VP VQ VR VS VT VU VV VW VX VY VZ V0 V1 V2 V3 V4 V5 V6 V7 V8 V9 Wa Wb Wc Wd We Wf Wg Wh Wi Wj Wk Wl Wm Wn Wo Wp Wq Wr Ws Wt Wu Wv Ww Wx Wy Wz WA WB WC WD WE WF WG WH WI WJ WK WL WM WN WO WP WQ WR WS WT WU WV WW WX WY WZ W0 W1 W2 W3 W4 W5 W6 W7 W8 W9 Xa Xb Xc Xd Xe Xf Xg Xh Xi Xj Xk Xl Xm Xn Xo Xp Xq Xr Xs Xt Xu Xv Xw Xx Xy Xz XA XB XC XD XE XF XG XH XI XJ:Value) (Q0:Exit → Act → World → Prop) (hs:s.length ≤ 1000000000000) (hr:R9 s en w0 p toks v wr)
    (hQ:∀ x a w',RD9 s en w0 x a w' → Q0 x a w'):Code.wp Tryz.prog body9 (Exit.then (fun a' w''=>WI9 s en w0 (fun _=>True) a' w'' ∧ mu9 s a' < mu9 s ⟨#[.string ⟨s.toArray⟩,.bool en,undef,undef,.pointer (some ⟨w0.heap.size,0,none⟩),.pointer (some ⟨w0.heap.size + 1,0,none⟩),.int .i64 (p:Nat),Uh,Ui,Uj,Uk,Ul,Um,Un,Uo,Up,Uq,Ur,Us,Ut,Uu,Uv,Uw,Ux,Uy,Uz,UA,UB,UC,UD,UE,UF,UG,UH,UI,UJ,UK,UL,UM,UN,UO,UP,UQ,UR,US,UT,UU,UV,UW,UX,UY,UZ,U0,U1,U2,U3,U4,U5,U6,U7,U8,U9,Va,Vb,Vc,Vd,Ve,Vf,Vg,Vh,Vi,Vj,Vk,Vl,Vm,Vn,Vo,Vp,Vq,Vr,Vs,Vt,Vu,Vv,Vw,Vx,Vy,Vz,VA,VB,VC,VD,VE,VF,VG,VH,VI,VJ,VK,VL,VM,VN,VO,VP,VQ,VR,VS,VT,VU,VV,VW,VX,VY,VZ,V0,V1,V2,V3,V4,V5,V6,V7,V8,V9,Wa,Wb,Wc,Wd,We,Wf,Wg,Wh,Wi,Wj,Wk,Wl,Wm,Wn,Wo,Wp,Wq,Wr,Ws,Wt,Wu,Wv,Ww,Wx,Wy,Wz,WA,WB,WC,WD,WE,WF,WG,WH,WI,WJ,WK,WL,WM,WN,WO,WP,WQ,WR,WS,WT,WU,WV,WW,WX,WY,WZ,W0,W1,W2,W3,W4,W5,W6,W7,W8,W9,Xa,Xb,Xc,Xd,Xe,Xf,Xg,Xh,Xi,Xj,Xk,Xl,Xm,Xn,Xo,Xp,Xq,Xr,Xs,Xt,Xu,Xv,Xw,Xx,Xy,Xz,XA,XB,XC,XD,XE,XF,XG,XH,XI,XJ,undef],[]⟩) Q0) ⟨#[.string ⟨s.toArray⟩,.bool en,undef,undef,.pointer (some ⟨w0.heap.size,0,none⟩),.pointer (some ⟨w0.heap.size + 1,0,none⟩),.int .i64 (p:Nat),Uh,Ui,Uj,Uk,Ul,Um,Un,Uo,Up,Uq,Ur,Us,Ut,Uu,Uv,Uw,Ux,Uy,Uz,UA,UB,UC,UD,UE,UF,UG,UH,UI,UJ,UK,UL,UM,UN,UO,UP,UQ,UR,US,UT,UU,UV,UW,UX,UY,UZ,U0,U1,U2,U3,U4,U5,U6,U7,U8,U9,Va,Vb,Vc,Vd,Ve,Vf,Vg,Vh,Vi,Vj,Vk,Vl,Vm,Vn,Vo,Vp,Vq,Vr,Vs,Vt,Vu,Vv,Vw,Vx,Vy,Vz,VA,VB,VC,VD,VE,VF,VG,VH,VI,VJ,VK,VL,VM,VN,VO,VP,VQ,VR,VS,VT,VU,VV,VW,VX,VY,VZ,V0,V1,V2,V3,V4,V5,V6,V7,V8,V9,Wa,Wb,Wc,Wd,We,Wf,Wg,Wh,Wi,Wj,Wk,Wl,Wm,Wn,Wo,Wp,Wq,Wr,Ws,Wt,Wu,Wv,Ww,Wx,Wy,Wz,WA,WB,WC,WD,WE,WF,WG,WH,WI,WJ,WK,WL,WM,WN,WO,WP,WQ,WR,WS,WT,WU,WV,WW,WX,WY,WZ,W0,W1,W2,W3,W4,W5,W6,W7,W8,W9,Xa,Xb,Xc,Xd,Xe,Xf,Xg,Xh,Xi,Xj,Xk,Xl,Xm,Xn,Xo,Xp,Xq,Xr,Xs,Xt,Xu,Xv,Xw,Xx,Xy,Xz,XA,XB,XC,XD,XE,XF,XG,XH,XI,XJ,undef],[]⟩ wr:=by
  rcases Nat.lt_or_ge p s.length with hp | hp
  · cases hb:blankB (s.getD p 0) with
    | true=>exact case_blank s en w0 wr p toks v Uh Ui Uj Uk Ul Um Un Uo Up Uq Ur Us Ut Uu Uv Uw Ux Uy Uz UA UB UC UD UE UF UG UH UI UJ UK UL UM UN UO UP UQ UR US UT UU UV UW UX UY UZ U0 U1 U2 U3 U4 U5 U6 U7 U8 U9 Va Vb Vc Vd Ve Vf Vg Vh Vi Vj Vk Vl Vm Vn Vo Vp Vq Vr Vs Vt Vu Vv Vw Vx Vy Vz VA VB VC VD VE VF VG VH VI VJ VK VL VM VN VO VP VQ VR VS VT VU VV VW VX VY VZ V0 V1 V2 V3 V4 V5 V6 V7 V8 V9 Wa Wb Wc Wd We Wf Wg Wh Wi Wj Wk Wl Wm Wn Wo Wp Wq Wr Ws Wt Wu Wv Ww Wx Wy Wz WA WB WC WD WE WF WG WH WI WJ WK WL WM WN WO WP WQ WR WS WT WU WV WW WX WY WZ W0 W1 W2 W3 W4 W5 W6 W7 W8 W9 Xa Xb Xc Xd Xe Xf Xg Xh Xi Xj Xk Xl Xm Xn Xo Xp Xq Xr Xs Xt Xu Xv Xw Xx Xy Xz XA XB XC XD XE XF XG XH XI XJ Q0 hs hp hr hb hQ
    | false =>
      cases hm:markB (s.getD p 0) with
      | true=>exact case_mark s en w0 wr p toks v Uh Ui Uj Uk Ul Um Un Uo Up Uq Ur Us Ut Uu Uv Uw Ux Uy Uz UA UB UC UD UE UF UG UH UI UJ UK UL UM UN UO UP UQ UR US UT UU UV UW UX UY UZ U0 U1 U2 U3 U4 U5 U6 U7 U8 U9 Va Vb Vc Vd Ve Vf Vg Vh Vi Vj Vk Vl Vm Vn Vo Vp Vq Vr Vs Vt Vu Vv Vw Vx Vy Vz VA VB VC VD VE VF VG VH VI VJ VK VL VM VN VO VP VQ VR VS VT VU VV VW VX VY VZ V0 V1 V2 V3 V4 V5 V6 V7 V8 V9 Wa Wb Wc Wd We Wf Wg Wh Wi Wj Wk Wl Wm Wn Wo Wp Wq Wr Ws Wt Wu Wv Ww Wx Wy Wz WA WB WC WD WE WF WG WH WI WJ WK WL WM WN WO WP WQ WR WS WT WU WV WW WX WY WZ W0 W1 W2 W3 W4 W5 W6 W7 W8 W9 Xa Xb Xc Xd Xe Xf Xg Xh Xi Xj Xk Xl Xm Xn Xo Xp Xq Xr Xs Xt Xu Xv Xw Xx Xy Xz XA XB XC XD XE XF XG XH XI XJ Q0 hs hp hr hb hm hQ
      | false =>
        by_cases hw:wordOf (s.getD p 0) = []
        · by_cases hq:s.getD p 0 = 34
          · cases hT:txtF s (p + 1) [] with
            | ok sy q=>exact case_text_ok s en w0 wr p toks v Uh Ui Uj Uk Ul Um Un Uo Up Uq Ur Us Ut Uu Uv Uw Ux Uy Uz UA UB UC UD UE UF UG UH UI UJ UK UL UM UN UO UP UQ UR US UT UU UV UW UX UY UZ U0 U1 U2 U3 U4 U5 U6 U7 U8 U9 Va Vb Vc Vd Ve Vf Vg Vh Vi Vj Vk Vl Vm Vn Vo Vp Vq Vr Vs Vt Vu Vv Vw Vx Vy Vz VA VB VC VD VE VF VG VH VI VJ VK VL VM VN VO VP VQ VR VS VT VU VV VW VX VY VZ V0 V1 V2 V3 V4 V5 V6 V7 V8 V9 Wa Wb Wc Wd We Wf Wg Wh Wi Wj Wk Wl Wm Wn Wo Wp Wq Wr Ws Wt Wu Wv Ww Wx Wy Wz WA WB WC WD WE WF WG WH WI WJ WK WL WM WN WO WP WQ WR WS WT WU WV WW WX WY WZ W0 W1 W2 W3 W4 W5 W6 W7 W8 W9 Xa Xb Xc Xd Xe Xf Xg Xh Xi Xj Xk Xl Xm Xn Xo Xp Xq Xr Xs Xt Xu Xv Xw Xx Xy Xz XA XB XC XD XE XF XG XH XI XJ Q0 hs hp hr sy q hb hm hw hq hT hQ
            | bad no q=>exact case_text_bad s en w0 wr p toks v Uh Ui Uj Uk Ul Um Un Uo Up Uq Ur Us Ut Uu Uv Uw Ux Uy Uz UA UB UC UD UE UF UG UH UI UJ UK UL UM UN UO UP UQ UR US UT UU UV UW UX UY UZ U0 U1 U2 U3 U4 U5 U6 U7 U8 U9 Va Vb Vc Vd Ve Vf Vg Vh Vi Vj Vk Vl Vm Vn Vo Vp Vq Vr Vs Vt Vu Vv Vw Vx Vy Vz VA VB VC VD VE VF VG VH VI VJ VK VL VM VN VO VP VQ VR VS VT VU VV VW VX VY VZ V0 V1 V2 V3 V4 V5 V6 V7 V8 V9 Wa Wb Wc Wd We Wf Wg Wh Wi Wj Wk Wl Wm Wn Wo Wp Wq Wr Ws Wt Wu Wv Ww Wx Wy Wz WA WB WC WD WE WF WG WH WI WJ WK WL WM WN WO WP WQ WR WS WT WU WV WW WX WY WZ W0 W1 W2 W3 W4 W5 W6 W7 W8 W9 Xa Xb Xc Xd Xe Xf Xg Xh Xi Xj Xk Xl Xm Xn Xo Xp Xq Xr Xs Xt Xu Xv Xw Xx Xy Xz XA XB XC XD XE XF XG XH XI XJ Q0 hs hp hr no q hb hm hw hq hT hQ
            | cut=>exact case_text_cut s en w0 wr p toks v Uh Ui Uj Uk Ul Um Un Uo Up Uq Ur Us Ut Uu Uv Uw Ux Uy Uz UA UB UC UD UE UF UG UH UI UJ UK UL UM UN UO UP UQ UR US UT UU UV UW UX UY UZ U0 U1 U2 U3 U4 U5 U6 U7 U8 U9 Va Vb Vc Vd Ve Vf Vg Vh Vi Vj Vk Vl Vm Vn Vo Vp Vq Vr Vs Vt Vu Vv Vw Vx Vy Vz VA VB VC VD VE VF VG VH VI VJ VK VL VM VN VO VP VQ VR VS VT VU VV VW VX VY VZ V0 V1 V2 V3 V4 V5 V6 V7 V8 V9 Wa Wb Wc Wd We Wf Wg Wh Wi Wj Wk Wl Wm Wn Wo Wp Wq Wr Ws Wt Wu Wv Ww Wx Wy Wz WA WB WC WD WE WF WG WH WI WJ WK WL WM WN WO WP WQ WR WS WT WU WV WW WX WY WZ W0 W1 W2 W3 W4 W5 W6 W7 W8 W9 Xa Xb Xc Xd Xe Xf Xg Xh Xi Xj Xk Xl Xm Xn Xo Xp Xq Xr Xs Xt Xu Xv Xw Xx Xy Xz XA XB XC XD XE XF XG XH XI XJ Q0 hs hp hr hb hm hw hq hT hQ
          · by_cases hd:s.getD p 0 = 45 ∨ isD (s.getD p 0) = true
            · obtain ⟨nP,nB,hN⟩:∃ nP nB,numP (s.drop p) = (nP,nB):=⟨_,_,rfl⟩
              have hle:p + nP ≤ s.length:=by have:=numP_le (s.drop p);rw [hN,List.length_drop] at this;dsimp only at this;omega
              cases nB with
              | false =>
                rcases Nat.lt_or_ge (p + nP) s.length with hl | hl
                · exact case_num_bad s en w0 wr p toks v Uh Ui Uj Uk Ul Um Un Uo Up Uq Ur Us Ut Uu Uv Uw Ux Uy Uz UA UB UC UD UE UF UG UH UI UJ UK UL UM UN UO UP UQ UR US UT UU UV UW UX UY UZ U0 U1 U2 U3 U4 U5 U6 U7 U8 U9 Va Vb Vc Vd Ve Vf Vg Vh Vi Vj Vk Vl Vm Vn Vo Vp Vq Vr Vs Vt Vu Vv Vw Vx Vy Vz VA VB VC VD VE VF VG VH VI VJ VK VL VM VN VO VP VQ VR VS VT VU VV VW VX VY VZ V0 V1 V2 V3 V4 V5 V6 V7 V8 V9 Wa Wb Wc Wd We Wf Wg Wh Wi Wj Wk Wl Wm Wn Wo Wp Wq Wr Ws Wt Wu Wv Ww Wx Wy Wz WA WB WC WD WE WF WG WH WI WJ WK WL WM WN WO WP WQ WR WS WT WU WV WW WX WY WZ W0 W1 W2 W3 W4 W5 W6 W7 W8 W9 Xa Xb Xc Xd Xe Xf Xg Xh Xi Xj Xk Xl Xm Xn Xo Xp Xq Xr Xs Xt Xu Xv Xw Xx Xy Xz XA XB XC XD XE XF XG XH XI XJ Q0 hs hp hr nP (p + nP) false hb hm hw hq hd hN rfl rfl hl hQ
                · exact case_num_cut s en w0 wr p toks v Uh Ui Uj Uk Ul Um Un Uo Up Uq Ur Us Ut Uu Uv Uw Ux Uy Uz UA UB UC UD UE UF UG UH UI UJ UK UL UM UN UO UP UQ UR US UT UU UV UW UX UY UZ U0 U1 U2 U3 U4 U5 U6 U7 U8 U9 Va Vb Vc Vd Ve Vf Vg Vh Vi Vj Vk Vl Vm Vn Vo Vp Vq Vr Vs Vt Vu Vv Vw Vx Vy Vz VA VB VC VD VE VF VG VH VI VJ VK VL VM VN VO VP VQ VR VS VT VU VV VW VX VY VZ V0 V1 V2 V3 V4 V5 V6 V7 V8 V9 Wa Wb Wc Wd We Wf Wg Wh Wi Wj Wk Wl Wm Wn Wo Wp Wq Wr Ws Wt Wu Wv Ww Wx Wy Wz WA WB WC WD WE WF WG WH WI WJ WK WL WM WN WO WP WQ WR WS WT WU WV WW WX WY WZ W0 W1 W2 W3 W4 W5 W6 W7 W8 W9 Xa Xb Xc Xd Xe Xf Xg Xh Xi Xj Xk Xl Xm Xn Xo Xp Xq Xr Xs Xt Xu Xv Xw Xx Xy Xz XA XB XC XD XE XF XG XH XI XJ Q0 hs hp hr nP (p + nP) false hb hm hw hq hd hN rfl rfl (by omega) hQ
              | true =>
                by_cases hwt:p + nP = s.length ∧ en = false
                · exact case_num_wait s en w0 wr p toks v Uh Ui Uj Uk Ul Um Un Uo Up Uq Ur Us Ut Uu Uv Uw Ux Uy Uz UA UB UC UD UE UF UG UH UI UJ UK UL UM UN UO UP UQ UR US UT UU UV UW UX UY UZ U0 U1 U2 U3 U4 U5 U6 U7 U8 U9 Va Vb Vc Vd Ve Vf Vg Vh Vi Vj Vk Vl Vm Vn Vo Vp Vq Vr Vs Vt Vu Vv Vw Vx Vy Vz VA VB VC VD VE VF VG VH VI VJ VK VL VM VN VO VP VQ VR VS VT VU VV VW VX VY VZ V0 V1 V2 V3 V4 V5 V6 V7 V8 V9 Wa Wb Wc Wd We Wf Wg Wh Wi Wj Wk Wl Wm Wn Wo Wp Wq Wr Ws Wt Wu Wv Ww Wx Wy Wz WA WB WC WD WE WF WG WH WI WJ WK WL WM WN WO WP WQ WR WS WT WU WV WW WX WY WZ W0 W1 W2 W3 W4 W5 W6 W7 W8 W9 Xa Xb Xc Xd Xe Xf Xg Xh Xi Xj Xk Xl Xm Xn Xo Xp Xq Xr Xs Xt Xu Xv Xw Xx Xy Xz XA XB XC XD XE XF XG XH XI XJ Q0 hs hp hr nP (p + nP) true hb hm hw hq hd hN rfl rfl hwt.1 hwt.2 hQ
                · have hql:p + nP = s.length → en = true:=fun h=>by
                    cases en with
                    | true=>rfl
                    | false=>exact absurd ⟨h,rfl⟩ hwt
                  cases hf:flP ((s.drop p).take nP) with
                  | none=>exact case_num_range s en w0 wr p toks v Uh Ui Uj Uk Ul Um Un Uo Up Uq Ur Us Ut Uu Uv Uw Ux Uy Uz UA UB UC UD UE UF UG UH UI UJ UK UL UM UN UO UP UQ UR US UT UU UV UW UX UY UZ U0 U1 U2 U3 U4 U5 U6 U7 U8 U9 Va Vb Vc Vd Ve Vf Vg Vh Vi Vj Vk Vl Vm Vn Vo Vp Vq Vr Vs Vt Vu Vv Vw Vx Vy Vz VA VB VC VD VE VF VG VH VI VJ VK VL VM VN VO VP VQ VR VS VT VU VV VW VX VY VZ V0 V1 V2 V3 V4 V5 V6 V7 V8 V9 Wa Wb Wc Wd We Wf Wg Wh Wi Wj Wk Wl Wm Wn Wo Wp Wq Wr Ws Wt Wu Wv Ww Wx Wy Wz WA WB WC WD WE WF WG WH WI WJ WK WL WM WN WO WP WQ WR WS WT WU WV WW WX WY WZ W0 W1 W2 W3 W4 W5 W6 W7 W8 W9 Xa Xb Xc Xd Xe Xf Xg Xh Xi Xj Xk Xl Xm Xn Xo Xp Xq Xr Xs Xt Xu Xv Xw Xx Xy Xz XA XB XC XD XE XF XG XH XI XJ Q0 hs hp hr nP (p + nP) true hb hm hw hq hd hN rfl rfl hql hf hQ
                  | some x=>exact case_num_ok s en w0 wr p toks v Uh Ui Uj Uk Ul Um Un Uo Up Uq Ur Us Ut Uu Uv Uw Ux Uy Uz UA UB UC UD UE UF UG UH UI UJ UK UL UM UN UO UP UQ UR US UT UU UV UW UX UY UZ U0 U1 U2 U3 U4 U5 U6 U7 U8 U9 Va Vb Vc Vd Ve Vf Vg Vh Vi Vj Vk Vl Vm Vn Vo Vp Vq Vr Vs Vt Vu Vv Vw Vx Vy Vz VA VB VC VD VE VF VG VH VI VJ VK VL VM VN VO VP VQ VR VS VT VU VV VW VX VY VZ V0 V1 V2 V3 V4 V5 V6 V7 V8 V9 Wa Wb Wc Wd We Wf Wg Wh Wi Wj Wk Wl Wm Wn Wo Wp Wq Wr Ws Wt Wu Wv Ww Wx Wy Wz WA WB WC WD WE WF WG WH WI WJ WK WL WM WN WO WP WQ WR WS WT WU WV WW WX WY WZ W0 W1 W2 W3 W4 W5 W6 W7 W8 W9 Xa Xb Xc Xd Xe Xf Xg Xh Xi Xj Xk Xl Xm Xn Xo Xp Xq Xr Xs Xt Xu Xv Xw Xx Xy Xz XA XB XC XD XE XF XG XH XI XJ Q0 hs hp hr nP (p + nP) true hb hm hw hq hd hN rfl x rfl hql hf hQ
            · exact case_other s en w0 wr p toks v Uh Ui Uj Uk Ul Um Un Uo Up Uq Ur Us Ut Uu Uv Uw Ux Uy Uz UA UB UC UD UE UF UG UH UI UJ UK UL UM UN UO UP UQ UR US UT UU UV UW UX UY UZ U0 U1 U2 U3 U4 U5 U6 U7 U8 U9 Va Vb Vc Vd Ve Vf Vg Vh Vi Vj Vk Vl Vm Vn Vo Vp Vq Vr Vs Vt Vu Vv Vw Vx Vy Vz VA VB VC VD VE VF VG VH VI VJ VK VL VM VN VO VP VQ VR VS VT VU VV VW VX VY VZ V0 V1 V2 V3 V4 V5 V6 V7 V8 V9 Wa Wb Wc Wd We Wf Wg Wh Wi Wj Wk Wl Wm Wn Wo Wp Wq Wr Ws Wt Wu Wv Ww Wx Wy Wz WA WB WC WD WE WF WG WH WI WJ WK WL WM WN WO WP WQ WR WS WT WU WV WW WX WY WZ W0 W1 W2 W3 W4 W5 W6 W7 W8 W9 Xa Xb Xc Xd Xe Xf Xg Xh Xi Xj Xk Xl Xm Xn Xo Xp Xq Xr Xs Xt Xu Xv Xw Xx Xy Xz XA XB XC XD XE XF XG XH XI XJ Q0 hs hp hr hb hm hw hq (fun h=>hd (.inl h)) (by
                cases h:isD (s.getD p 0) with
                | false=>rfl
                | true=>exact absurd (.inr h) hd) hQ
        · exact case_word s en w0 wr p toks v Uh Ui Uj Uk Ul Um Un Uo Up Uq Ur Us Ut Uu Uv Uw Ux Uy Uz UA UB UC UD UE UF UG UH UI UJ UK UL UM UN UO UP UQ UR US UT UU UV UW UX UY UZ U0 U1 U2 U3 U4 U5 U6 U7 U8 U9 Va Vb Vc Vd Ve Vf Vg Vh Vi Vj Vk Vl Vm Vn Vo Vp Vq Vr Vs Vt Vu Vv Vw Vx Vy Vz VA VB VC VD VE VF VG VH VI VJ VK VL VM VN VO VP VQ VR VS VT VU VV VW VX VY VZ V0 V1 V2 V3 V4 V5 V6 V7 V8 V9 Wa Wb Wc Wd We Wf Wg Wh Wi Wj Wk Wl Wm Wn Wo Wp Wq Wr Ws Wt Wu Wv Ww Wx Wy Wz WA WB WC WD WE WF WG WH WI WJ WK WL WM WN WO WP WQ WR WS WT WU WV WW WX WY WZ W0 W1 W2 W3 W4 W5 W6 W7 W8 W9 Xa Xb Xc Xd Xe Xf Xg Xh Xi Xj Xk Xl Xm Xn Xo Xp Xq Xr Xs Xt Xu Xv Xw Xx Xy Xz XA XB XC XD XE XF XG XH XI XJ Q0 hs hp hr (wordOf (s.getD p 0)) _ hb hm rfl hw rfl hQ
  · exact case_end s en w0 wr p toks v Uh Ui Uj Uk Ul Um Un Uo Up Uq Ur Us Ut Uu Uv Uw Ux Uy Uz UA UB UC UD UE UF UG UH UI UJ UK UL UM UN UO UP UQ UR US UT UU UV UW UX UY UZ U0 U1 U2 U3 U4 U5 U6 U7 U8 U9 Va Vb Vc Vd Ve Vf Vg Vh Vi Vj Vk Vl Vm Vn Vo Vp Vq Vr Vs Vt Vu Vv Vw Vx Vy Vz VA VB VC VD VE VF VG VH VI VJ VK VL VM VN VO VP VQ VR VS VT VU VV VW VX VY VZ V0 V1 V2 V3 V4 V5 V6 V7 V8 V9 Wa Wb Wc Wd We Wf Wg Wh Wi Wj Wk Wl Wm Wn Wo Wp Wq Wr Ws Wt Wu Wv Ww Wx Wy Wz WA WB WC WD WE WF WG WH WI WJ WK WL WM WN WO WP WQ WR WS WT WU WV WW WX WY WZ W0 W1 W2 W3 W4 W5 W6 W7 W8 W9 Xa Xb Xc Xd Xe Xf Xg Xh Xi Xj Xk Xl Xm Xn Xo Xp Xq Xr Xs Xt Xu Xv Xw Xx Xy Xz XA XB XC XD XE XF XG XH XI XJ Q0 hs hr (by have:=hr.1;omega) hQ
set_option maxRecDepth 1000000 in
set_option maxHeartbeats 8000000 in
theorem read9_loop (s:List UInt8) (en:Bool) (w0:World) (a:Act) (W:World) (Q0:Exit → Act → World → Prop) (hs:s.length ≤ 1000000000000) (h0:WI9 s en w0 (fun _=>True) a W) (hQ:∀ x a w',RD9 s en w0 x a w' → Q0 x a w'):(Code.loop body9).wp Tryz.prog Q0 a W:=by
  refine wp_loop (WI9 s en w0 (fun _=>True)) (fun a _=>mu9 s a) h0 ?_
  intro a W h
  unfold WI9 at h
  obtain ⟨Ug,h⟩:=h
  obtain ⟨Uh,h⟩:=h
  obtain ⟨Ui,h⟩:=h
  obtain ⟨Uj,h⟩:=h
  obtain ⟨Uk,h⟩:=h
  obtain ⟨Ul,h⟩:=h
  obtain ⟨Um,h⟩:=h
  obtain ⟨Un,h⟩:=h
  obtain ⟨Uo,h⟩:=h
  obtain ⟨Up,h⟩:=h
  obtain ⟨Uq,h⟩:=h
  obtain ⟨Ur,h⟩:=h
  obtain ⟨Us,h⟩:=h
  obtain ⟨Ut,h⟩:=h
  obtain ⟨Uu,h⟩:=h
  obtain ⟨Uv,h⟩:=h
  obtain ⟨Uw,h⟩:=h
  obtain ⟨Ux,h⟩:=h
  obtain ⟨Uy,h⟩:=h
  obtain ⟨Uz,h⟩:=h
  obtain ⟨UA,h⟩:=h
  obtain ⟨UB,h⟩:=h
  obtain ⟨UC,h⟩:=h
  obtain ⟨UD,h⟩:=h
  obtain ⟨UE,h⟩:=h
  obtain ⟨UF,h⟩:=h
  obtain ⟨UG,h⟩:=h
  obtain ⟨UH,h⟩:=h
  obtain ⟨UI,h⟩:=h
  obtain ⟨UJ,h⟩:=h
  obtain ⟨UK,h⟩:=h
  obtain ⟨UL,h⟩:=h
  obtain ⟨UM,h⟩:=h
  obtain ⟨UN,h⟩:=h
  obtain ⟨UO,h⟩:=h
  obtain ⟨UP,h⟩:=h
  obtain ⟨UQ,h⟩:=h
  obtain ⟨UR,h⟩:=h
  obtain ⟨US,h⟩:=h
  obtain ⟨UT,h⟩:=h
  obtain ⟨UU,h⟩:=h
  obtain ⟨UV,h⟩:=h
  obtain ⟨UW,h⟩:=h
  obtain ⟨UX,h⟩:=h
  obtain ⟨UY,h⟩:=h
  obtain ⟨UZ,h⟩:=h
  obtain ⟨U0,h⟩:=h
  obtain ⟨U1,h⟩:=h
  obtain ⟨U2,h⟩:=h
  obtain ⟨U3,h⟩:=h
  obtain ⟨U4,h⟩:=h
  obtain ⟨U5,h⟩:=h
  obtain ⟨U6,h⟩:=h
  obtain ⟨U7,h⟩:=h
  obtain ⟨U8,h⟩:=h
  obtain ⟨U9,h⟩:=h
  obtain ⟨Va,h⟩:=h
  obtain ⟨Vb,h⟩:=h
  obtain ⟨Vc,h⟩:=h
  obtain ⟨Vd,h⟩:=h
  obtain ⟨Ve,h⟩:=h
  obtain ⟨Vf,h⟩:=h
  obtain ⟨Vg,h⟩:=h
  obtain ⟨Vh,h⟩:=h
  obtain ⟨Vi,h⟩:=h
  obtain ⟨Vj,h⟩:=h
  obtain ⟨Vk,h⟩:=h
  obtain ⟨Vl,h⟩:=h
  obtain ⟨Vm,h⟩:=h
  obtain ⟨Vn,h⟩:=h
  obtain ⟨Vo,h⟩:=h
  obtain ⟨Vp,h⟩:=h
  obtain ⟨Vq,h⟩:=h
  obtain ⟨Vr,h⟩:=h
  obtain ⟨Vs,h⟩:=h
  obtain ⟨Vt,h⟩:=h
  obtain ⟨Vu,h⟩:=h
  obtain ⟨Vv,h⟩:=h
  obtain ⟨Vw,h⟩:=h
  obtain ⟨Vx,h⟩:=h
  obtain ⟨Vy,h⟩:=h
  obtain ⟨Vz,h⟩:=h
  obtain ⟨VA,h⟩:=h
  obtain ⟨VB,h⟩:=h
  obtain ⟨VC,h⟩:=h
  obtain ⟨VD,h⟩:=h
  obtain ⟨VE,h⟩:=h
  obtain ⟨VF,h⟩:=h
  obtain ⟨VG,h⟩:=h
  obtain ⟨VH,h⟩:=h
  obtain ⟨VI,h⟩:=h
  obtain ⟨VJ,h⟩:=h
  obtain ⟨VK,h⟩:=h
  obtain ⟨VL,h⟩:=h
  obtain ⟨VM,h⟩:=h
  obtain ⟨VN,h⟩:=h
  obtain ⟨VO,h⟩:=h
  obtain ⟨VP,h⟩:=h
  obtain ⟨VQ,h⟩:=h
  obtain ⟨VR,h⟩:=h
  obtain ⟨VS,h⟩:=h
  obtain ⟨VT,h⟩:=h
  obtain ⟨VU,h⟩:=h
  obtain ⟨VV,h⟩:=h
  obtain ⟨VW,h⟩:=h
  obtain ⟨VX,h⟩:=h
  obtain ⟨VY,h⟩:=h
  obtain ⟨VZ,h⟩:=h
  obtain ⟨V0,h⟩:=h
  obtain ⟨V1,h⟩:=h
  obtain ⟨V2,h⟩:=h
  obtain ⟨V3,h⟩:=h
  obtain ⟨V4,h⟩:=h
  obtain ⟨V5,h⟩:=h
  obtain ⟨V6,h⟩:=h
  obtain ⟨V7,h⟩:=h
  obtain ⟨V8,h⟩:=h
  obtain ⟨V9,h⟩:=h
  obtain ⟨Wa,h⟩:=h
  obtain ⟨Wb,h⟩:=h
  obtain ⟨Wc,h⟩:=h
  obtain ⟨Wd,h⟩:=h
  obtain ⟨We,h⟩:=h
  obtain ⟨Wf,h⟩:=h
  obtain ⟨Wg,h⟩:=h
  obtain ⟨Wh,h⟩:=h
  obtain ⟨Wi,h⟩:=h
  obtain ⟨Wj,h⟩:=h
  obtain ⟨Wk,h⟩:=h
  obtain ⟨Wl,h⟩:=h
  obtain ⟨Wm,h⟩:=h
  obtain ⟨Wn,h⟩:=h
  obtain ⟨Wo,h⟩:=h
  obtain ⟨Wp,h⟩:=h
  obtain ⟨Wq,h⟩:=h
  obtain ⟨Wr,h⟩:=h
  obtain ⟨Ws,h⟩:=h
  obtain ⟨Wt,h⟩:=h
  obtain ⟨Wu,h⟩:=h
  obtain ⟨Wv,h⟩:=h
  obtain ⟨Ww,h⟩:=h
  obtain ⟨Wx,h⟩:=h
  obtain ⟨Wy,h⟩:=h
  obtain ⟨Wz,h⟩:=h
  obtain ⟨WA,h⟩:=h
  obtain ⟨WB,h⟩:=h
  obtain ⟨WC,h⟩:=h
  obtain ⟨WD,h⟩:=h
  obtain ⟨WE,h⟩:=h
  obtain ⟨WF,h⟩:=h
  obtain ⟨WG,h⟩:=h
  obtain ⟨WH,h⟩:=h
  obtain ⟨WI,h⟩:=h
  obtain ⟨WJ,h⟩:=h
  obtain ⟨WK,h⟩:=h
  obtain ⟨WL,h⟩:=h
  obtain ⟨WM,h⟩:=h
  obtain ⟨WN,h⟩:=h
  obtain ⟨WO,h⟩:=h
  obtain ⟨WP,h⟩:=h
  obtain ⟨WQ,h⟩:=h
  obtain ⟨WR,h⟩:=h
  obtain ⟨WS,h⟩:=h
  obtain ⟨WT,h⟩:=h
  obtain ⟨WU,h⟩:=h
  obtain ⟨WV,h⟩:=h
  obtain ⟨WW,h⟩:=h
  obtain ⟨WX,h⟩:=h
  obtain ⟨WY,h⟩:=h
  obtain ⟨WZ,h⟩:=h
  obtain ⟨W0,h⟩:=h
  obtain ⟨W1,h⟩:=h
  obtain ⟨W2,h⟩:=h
  obtain ⟨W3,h⟩:=h
  obtain ⟨W4,h⟩:=h
  obtain ⟨W5,h⟩:=h
  obtain ⟨W6,h⟩:=h
  obtain ⟨W7,h⟩:=h
  obtain ⟨W8,h⟩:=h
  obtain ⟨W9,h⟩:=h
  obtain ⟨Xa,h⟩:=h
  obtain ⟨Xb,h⟩:=h
  obtain ⟨Xc,h⟩:=h
  obtain ⟨Xd,h⟩:=h
  obtain ⟨Xe,h⟩:=h
  obtain ⟨Xf,h⟩:=h
  obtain ⟨Xg,h⟩:=h
  obtain ⟨Xh,h⟩:=h
  obtain ⟨Xi,h⟩:=h
  obtain ⟨Xj,h⟩:=h
  obtain ⟨Xk,h⟩:=h
  obtain ⟨Xl,h⟩:=h
  obtain ⟨Xm,h⟩:=h
  obtain ⟨Xn,h⟩:=h
  obtain ⟨Xo,h⟩:=h
  obtain ⟨Xp,h⟩:=h
  obtain ⟨Xq,h⟩:=h
  obtain ⟨Xr,h⟩:=h
  obtain ⟨Xs,h⟩:=h
  obtain ⟨Xt,h⟩:=h
  obtain ⟨Xu,h⟩:=h
  obtain ⟨Xv,h⟩:=h
  obtain ⟨Xw,h⟩:=h
  obtain ⟨Xx,h⟩:=h
  obtain ⟨Xy,h⟩:=h
  obtain ⟨Xz,h⟩:=h
  obtain ⟨XA,h⟩:=h
  obtain ⟨XB,h⟩:=h
  obtain ⟨XC,h⟩:=h
  obtain ⟨XD,h⟩:=h
  obtain ⟨XE,h⟩:=h
  obtain ⟨XF,h⟩:=h
  obtain ⟨XG,h⟩:=h
  obtain ⟨XH,h⟩:=h
  obtain ⟨XI,h⟩:=h
  obtain ⟨XJ,h⟩:=h
  obtain ⟨⟨p,toks,v,_,h6,hr⟩,ha⟩:=h
  subst h6
  subst ha
  exact read9_round s en w0 W p toks v Uh Ui Uj Uk Ul Um Un Uo Up Uq Ur Us Ut Uu Uv Uw Ux Uy Uz UA UB UC UD UE UF UG UH UI UJ UK UL UM UN UO UP UQ UR US UT UU UV UW UX UY UZ U0 U1 U2 U3 U4 U5 U6 U7 U8 U9 Va Vb Vc Vd Ve Vf Vg Vh Vi Vj Vk Vl Vm Vn Vo Vp Vq Vr Vs Vt Vu Vv Vw Vx Vy Vz VA VB VC VD VE VF VG VH VI VJ VK VL VM VN VO VP VQ VR VS VT VU VV VW VX VY VZ V0 V1 V2 V3 V4 V5 V6 V7 V8 V9 Wa Wb Wc Wd We Wf Wg Wh Wi Wj Wk Wl Wm Wn Wo Wp Wq Wr Ws Wt Wu Wv Ww Wx Wy Wz WA WB WC WD WE WF WG WH WI WJ WK WL WM WN WO WP WQ WR WS WT WU WV WW WX WY WZ W0 W1 W2 W3 W4 W5 W6 W7 W8 W9 Xa Xb Xc Xd Xe Xf Xg Xh Xi Xj Xk Xl Xm Xn Xo Xp Xq Xr Xs Xt Xu Xv Xw Xx Xy Xz XA XB XC XD XE XF XG XH XI XJ Q0 hs hr hQ
end Go.Proofs.YtgmholdkdppbmaaGreatDoor.Lx

namespace Go.Proofs.YtgmholdkdppbmaaGreatDoor.Lx
open Go.RowKit Go.Shelf
attribute [local go_sem ↓] Go.wp_at_zero Go.wp_at_succ
def OtE (o:Ot) (w:World) (e:Ending) (w':World):Prop :=
  ∃ v,e = .returned (outV v o.no o.pos o.found o.held) ∧ w'.ownsRow w.heap.size 60 5 v o.toks.length (o.toks.flatMap tokR) ∧ Below w.heap.size w w'
theorem read_end {s:List UInt8} {en:Bool} {w W:World} {a:Act} (h4:a.tmps.getD 4 undef = .pointer (some ⟨w.heap.size,0,none⟩)) (hd:a.defers = []) (hE:RdE s en w W):bodyPost Tryz.prog Tryz.f30 (OtE (rdF flP s en 0) w) .ret a W:=by
  obtain ⟨v,hb,hown,hbel⟩:=hE
  obtain ⟨n0,n1,n2,n3,n4⟩:=cells5 hb
  refine bodyPost_ret (v:=outV v (rdF flP s en 0).no (rdF flP s en 0).pos (rdF flP s en 0).found (rdF flP s en 0).held) ?_ hd ⟨v,rfl,own_base hown (fun k hk=>by have:=(hown.lt k hk).1;omega),hbel⟩
  rw [Array.getD_eq_getD_getElem?] at h4
  simp [results,Tryz.results30,go_sem,h4,n0,n1,n2,n3,n4]
set_option maxRecDepth 1000000 in
set_option maxHeartbeats 8000000 in
theorem rread_any (s:List UInt8) (en:Bool) (w:World) (hs:s.length ≤ 1000000000000) :
    Calls Tryz.prog 30 #[.string ⟨s.toArray⟩,.bool en] w (OtE (rdF flP s en 0) w):=by
  have hb4:=(Blk.new w 32 #[.slice none 0 0,.int .i64 0,.int .i64 0,.int .i64 0,.int .i64 0]).alloc (.cells #[.slice none 0 0,.int .i64 0,.int .i64 0,.int .i64 0,.int .i64 0] 32)
  have hb5:=Blk.new (w.alloc (.cells #[.slice none 0 0,.int .i64 0,.int .i64 0,.int .i64 0,.int .i64 0] 32)) 32 #[.slice none 0 0,.int .i64 0,.int .i64 0,.int .i64 0,.int .i64 0]
  rw [World.size_alloc] at hb5
  have hbe:Below w.heap.size w ((w.alloc (.cells #[.slice none 0 0,.int .i64 0,.int .i64 0,.int .i64 0,.int .i64 0] 32)).alloc (.cells #[.slice none 0 0,.int .i64 0,.int .i64 0,.int .i64 0,.int .i64 0] 32)):=((Below.refl _ w).alloc (Nat.le_refl _) _).alloc (by simp) _
  have hR9:R9 s en w 0 [] (.slice none 0 0) ((w.alloc (.cells #[.slice none 0 0,.int .i64 0,.int .i64 0,.int .i64 0,.int .i64 0] 32)).alloc (.cells #[.slice none 0 0,.int .i64 0,.int .i64 0,.int .i64 0,.int .i64 0] 32)):=⟨Nat.zero_le _,rfl,Nat.le_refl _,World.ownsRow_nil _ _ _ _,hb4,hb5,hbe⟩
  have HR9:=Lib.hid hR9
  clear hb4 hb5 hbe hR9
  go_enter Tryz.func30,Tryz.ntmps30
  go_wp2_with fail
  generalize (w.alloc (.cells #[.slice none 0 0,.int .i64 0,.int .i64 0,.int .i64 0,.int .i64 0] 32)).alloc (.cells #[.slice none 0 0,.int .i64 0,.int .i64 0,.int .i64 0,.int .i64 0] 32) = W0 at *
  refine read9_loop s en w _ _ _ hs ?_ ?_
  · unfold WI9
    refine ⟨_,_,_,_,_,_,_,_,_,_,_,_,_,_,_,_,_,_,_,_,_,_,_,_,_,_,_,_,_,_,_,_,_,_,_,_,_,_,_,_,_,_,_,_,_,_,_,_,_,_,_,_,_,_,_,_,_,_,_,_,_,_,_,_,_,_,_,_,_,_,_,_,_,_,_,_,_,_,_,_,_,_,_,_,_,_,_,_,_,_,_,_,_,_,_,_,_,_,_,_,_,_,_,_,_,_,_,_,_,_,_,_,_,_,_,_,_,_,_,_,_,_,_,_,_,_,_,_,_,_,_,_,_,_,_,_,_,_,_,_,_,_,_,_,_,_,_,_,_,_,_,_,_,_,_,_,_,_,_,_,_,_,_,_,_,_,_,_,_,_,_,_,_,_,_,_,_,_,_,_,_,_,_,_,_,_,_,_,_,_,_,_,_,_,_,_,_,_,_,_,_,_,_,_,_,_,_,_,_,_,_,_,_,_,_,_,⟨0,[],.slice none 0 0,trivial,rfl,HR9.out⟩,rfl⟩
  · rintro x a w' (⟨rfl,h4,hd,hE⟩ | ⟨rfl,h⟩)
    · have HE:=Lib.hid (read_end h4 hd hE)
      clear h4 hd hE
      go_wp2_with fail
      exact HE.out
    · unfold WI9 at h
      obtain ⟨u6,h⟩:=h
      obtain ⟨u7,h⟩:=h
      obtain ⟨u8,h⟩:=h
      obtain ⟨u9,h⟩:=h
      obtain ⟨u10,h⟩:=h
      obtain ⟨u11,h⟩:=h
      obtain ⟨u12,h⟩:=h
      obtain ⟨u13,h⟩:=h
      obtain ⟨u14,h⟩:=h
      obtain ⟨u15,h⟩:=h
      obtain ⟨u16,h⟩:=h
      obtain ⟨u17,h⟩:=h
      obtain ⟨u18,h⟩:=h
      obtain ⟨u19,h⟩:=h
      obtain ⟨u20,h⟩:=h
      obtain ⟨u21,h⟩:=h
      obtain ⟨u22,h⟩:=h
      obtain ⟨u23,h⟩:=h
      obtain ⟨u24,h⟩:=h
      obtain ⟨u25,h⟩:=h
      obtain ⟨u26,h⟩:=h
      obtain ⟨u27,h⟩:=h
      obtain ⟨u28,h⟩:=h
      obtain ⟨u29,h⟩:=h
      obtain ⟨u30,h⟩:=h
      obtain ⟨u31,h⟩:=h
      obtain ⟨u32,h⟩:=h
      obtain ⟨u33,h⟩:=h
      obtain ⟨u34,h⟩:=h
      obtain ⟨u35,h⟩:=h
      obtain ⟨u36,h⟩:=h
      obtain ⟨u37,h⟩:=h
      obtain ⟨u38,h⟩:=h
      obtain ⟨u39,h⟩:=h
      obtain ⟨u40,h⟩:=h
      obtain ⟨u41,h⟩:=h
      obtain ⟨u42,h⟩:=h
      obtain ⟨u43,h⟩:=h
      obtain ⟨u44,h⟩:=h
      obtain ⟨u45,h⟩:=h
      obtain ⟨u46,h⟩:=h
      obtain ⟨u47,h⟩:=h
      obtain ⟨u48,h⟩:=h
      obtain ⟨u49,h⟩:=h
      obtain ⟨u50,h⟩:=h
      obtain ⟨u51,h⟩:=h
      obtain ⟨u52,h⟩:=h
      obtain ⟨u53,h⟩:=h
      obtain ⟨u54,h⟩:=h
      obtain ⟨u55,h⟩:=h
      obtain ⟨u56,h⟩:=h
      obtain ⟨u57,h⟩:=h
      obtain ⟨u58,h⟩:=h
      obtain ⟨u59,h⟩:=h
      obtain ⟨u60,h⟩:=h
      obtain ⟨u61,h⟩:=h
      obtain ⟨u62,h⟩:=h
      obtain ⟨u63,h⟩:=h
      obtain ⟨u64,h⟩:=h
      obtain ⟨u65,h⟩:=h
      obtain ⟨u66,h⟩:=h
      obtain ⟨u67,h⟩:=h
      obtain ⟨u68,h⟩:=h
      obtain ⟨u69,h⟩:=h
      obtain ⟨u70,h⟩:=h
      obtain ⟨u71,h⟩:=h
      obtain ⟨u72,h⟩:=h
      obtain ⟨u73,h⟩:=h
      obtain ⟨u74,h⟩:=h
      obtain ⟨u75,h⟩:=h
      obtain ⟨u76,h⟩:=h
      obtain ⟨u77,h⟩:=h
      obtain ⟨u78,h⟩:=h
      obtain ⟨u79,h⟩:=h
      obtain ⟨u80,h⟩:=h
      obtain ⟨u81,h⟩:=h
      obtain ⟨u82,h⟩:=h
      obtain ⟨u83,h⟩:=h
      obtain ⟨u84,h⟩:=h
      obtain ⟨u85,h⟩:=h
      obtain ⟨u86,h⟩:=h
      obtain ⟨u87,h⟩:=h
      obtain ⟨u88,h⟩:=h
      obtain ⟨u89,h⟩:=h
      obtain ⟨u90,h⟩:=h
      obtain ⟨u91,h⟩:=h
      obtain ⟨u92,h⟩:=h
      obtain ⟨u93,h⟩:=h
      obtain ⟨u94,h⟩:=h
      obtain ⟨u95,h⟩:=h
      obtain ⟨u96,h⟩:=h
      obtain ⟨u97,h⟩:=h
      obtain ⟨u98,h⟩:=h
      obtain ⟨u99,h⟩:=h
      obtain ⟨u100,h⟩:=h
      obtain ⟨u101,h⟩:=h
      obtain ⟨u102,h⟩:=h
      obtain ⟨u103,h⟩:=h
      obtain ⟨u104,h⟩:=h
      obtain ⟨u105,h⟩:=h
      obtain ⟨u106,h⟩:=h
      obtain ⟨u107,h⟩:=h
      obtain ⟨u108,h⟩:=h
      obtain ⟨u109,h⟩:=h
      obtain ⟨u110,h⟩:=h
      obtain ⟨u111,h⟩:=h
      obtain ⟨u112,h⟩:=h
      obtain ⟨u113,h⟩:=h
      obtain ⟨u114,h⟩:=h
      obtain ⟨u115,h⟩:=h
      obtain ⟨u116,h⟩:=h
      obtain ⟨u117,h⟩:=h
      obtain ⟨u118,h⟩:=h
      obtain ⟨u119,h⟩:=h
      obtain ⟨u120,h⟩:=h
      obtain ⟨u121,h⟩:=h
      obtain ⟨u122,h⟩:=h
      obtain ⟨u123,h⟩:=h
      obtain ⟨u124,h⟩:=h
      obtain ⟨u125,h⟩:=h
      obtain ⟨u126,h⟩:=h
      obtain ⟨u127,h⟩:=h
      obtain ⟨u128,h⟩:=h
      obtain ⟨u129,h⟩:=h
      obtain ⟨u130,h⟩:=h
      obtain ⟨u131,h⟩:=h
      obtain ⟨u132,h⟩:=h
      obtain ⟨u133,h⟩:=h
      obtain ⟨u134,h⟩:=h
      obtain ⟨u135,h⟩:=h
      obtain ⟨u136,h⟩:=h
      obtain ⟨u137,h⟩:=h
      obtain ⟨u138,h⟩:=h
      obtain ⟨u139,h⟩:=h
      obtain ⟨u140,h⟩:=h
      obtain ⟨u141,h⟩:=h
      obtain ⟨u142,h⟩:=h
      obtain ⟨u143,h⟩:=h
      obtain ⟨u144,h⟩:=h
      obtain ⟨u145,h⟩:=h
      obtain ⟨u146,h⟩:=h
      obtain ⟨u147,h⟩:=h
      obtain ⟨u148,h⟩:=h
      obtain ⟨u149,h⟩:=h
      obtain ⟨u150,h⟩:=h
      obtain ⟨u151,h⟩:=h
      obtain ⟨u152,h⟩:=h
      obtain ⟨u153,h⟩:=h
      obtain ⟨u154,h⟩:=h
      obtain ⟨u155,h⟩:=h
      obtain ⟨u156,h⟩:=h
      obtain ⟨u157,h⟩:=h
      obtain ⟨u158,h⟩:=h
      obtain ⟨u159,h⟩:=h
      obtain ⟨u160,h⟩:=h
      obtain ⟨u161,h⟩:=h
      obtain ⟨u162,h⟩:=h
      obtain ⟨u163,h⟩:=h
      obtain ⟨u164,h⟩:=h
      obtain ⟨u165,h⟩:=h
      obtain ⟨u166,h⟩:=h
      obtain ⟨u167,h⟩:=h
      obtain ⟨u168,h⟩:=h
      obtain ⟨u169,h⟩:=h
      obtain ⟨u170,h⟩:=h
      obtain ⟨u171,h⟩:=h
      obtain ⟨u172,h⟩:=h
      obtain ⟨u173,h⟩:=h
      obtain ⟨u174,h⟩:=h
      obtain ⟨u175,h⟩:=h
      obtain ⟨u176,h⟩:=h
      obtain ⟨u177,h⟩:=h
      obtain ⟨u178,h⟩:=h
      obtain ⟨u179,h⟩:=h
      obtain ⟨u180,h⟩:=h
      obtain ⟨u181,h⟩:=h
      obtain ⟨u182,h⟩:=h
      obtain ⟨u183,h⟩:=h
      obtain ⟨u184,h⟩:=h
      obtain ⟨u185,h⟩:=h
      obtain ⟨u186,h⟩:=h
      obtain ⟨u187,h⟩:=h
      obtain ⟨u188,h⟩:=h
      obtain ⟨u189,h⟩:=h
      obtain ⟨u190,h⟩:=h
      obtain ⟨u191,h⟩:=h
      obtain ⟨u192,h⟩:=h
      obtain ⟨u193,h⟩:=h
      obtain ⟨u194,h⟩:=h
      obtain ⟨u195,h⟩:=h
      obtain ⟨u196,h⟩:=h
      obtain ⟨u197,h⟩:=h
      obtain ⟨u198,h⟩:=h
      obtain ⟨u199,h⟩:=h
      obtain ⟨u200,h⟩:=h
      obtain ⟨u201,h⟩:=h
      obtain ⟨u202,h⟩:=h
      obtain ⟨u203,h⟩:=h
      obtain ⟨u204,h⟩:=h
      obtain ⟨u205,h⟩:=h
      obtain ⟨u206,h⟩:=h
      obtain ⟨u207,h⟩:=h
      obtain ⟨u208,h⟩:=h
      obtain ⟨u209,h⟩:=h
      obtain ⟨u210,h⟩:=h
      obtain ⟨u211,h⟩:=h
      obtain ⟨u212,h⟩:=h
      obtain ⟨u213,h⟩:=h
      obtain ⟨u214,h⟩:=h
      obtain ⟨u215,h⟩:=h
      obtain ⟨u216,h⟩:=h
      obtain ⟨u217,h⟩:=h
      obtain ⟨u218,h⟩:=h
      obtain ⟨u219,h⟩:=h
      obtain ⟨u220,h⟩:=h
      obtain ⟨u221,h⟩:=h
      obtain ⟨⟨p,toks,v,hp,h6,hr⟩,ha⟩:=h
      subst h6
      subst ha
      have HR:=Lib.hid hr
      obtain ⟨A,cc,rfl,_⟩:=own_shape9 hr.2.2.2.1
      have HRD:=Lib.hid (rdF_end (fl:=flP) (s:=s) (en:=en) (i:=p) (by omega))
      have hsl:=hr.2.2.2.2.1.lt
      obtain ⟨⟨m0,m1,m2,m3,m4⟩,⟨n0,n1,n2,n3,n4⟩,⟨f0,f1,f2,f3,f4⟩,⟨g0,g1,g2,g3,g4⟩⟩:=r9_cells hr (Below.refl _ _)
      clear hr hp
      go_wp2_with fail
      exact read_end rfl rfl (r9_ret HR.out (Below.refl _ _) HRD.out)
end Go.Proofs.YtgmholdkdppbmaaGreatDoor.Lx

namespace Go.Proofs.YtgmholdkdppbmaaGreatDoor.Lx
open Go.RowKit Go.Shelf
attribute [local go_sem ↓] Go.wp_at_zero Go.wp_at_succ
theorem run_headStr (s:List UInt8) (hq:16777216 < s.length) (w:World) :
    (Instr.sliceAt 9 (.string ⟨s.toArray⟩) none (some (.int .i64 16777216)) none).run Tryz.prog w = .ok (.string ⟨(s.take 16777216).toArray⟩) w:=by
  have h4:(16777216:Int) ≤ (s.length:Int):=by omega
  have hz:((⟨s.toArray⟩:ByteArray).size) = s.length:=rfl
  have he:(⟨s.toArray⟩:ByteArray).extract 0 16777216 = ⟨(s.take 16777216).toArray⟩:=by rw [ext_cut];rfl
  have hl:16777216 ≤ s.length:=by omega
  simp [go_sem,Instr.slice,Instr.sliceBounds,hz,he,hl]
  intro h
  omega
theorem rd_end {o:Ot} {w W:World} {a:Act} {v:Value} (h4:a.tmps.getD 4 undef = .pointer (some ⟨w.heap.size,0,none⟩)) (hd:a.defers = []) (hb:Blk W w.heap.size 32 #[v,.int .i64 (o.no:Nat),.int .i64 (o.pos:Nat),.int .i64 (o.found:Nat),.int .i64 (o.held:Nat)])
    (hown:W.ownsRow w.heap.size 60 5 v o.toks.length (o.toks.flatMap tokR)) (hbel:Below w.heap.size w W):bodyPost Tryz.prog Tryz.f12 (OtE o w) .ret a W:=by
  obtain ⟨n0,n1,n2,n3,n4⟩:=cells5 hb
  refine bodyPost_ret (v:=outV v o.no o.pos o.found o.held) ?_ hd ⟨v,rfl,hown,hbel⟩
  rw [Array.getD_eq_getD_getElem?] at h4
  simp [results,Tryz.results12,go_sem,h4,n0,n1,n2,n3,n4]
set_option maxRecDepth 1000000 in
set_option maxHeartbeats 4000000 in
theorem rRead_any (s:List UInt8) (en:Bool) (w:World) (hs:s.length ≤ 1000000000000) :
    Calls Tryz.prog 12 #[.string ⟨s.toArray⟩,.bool en] w (OtE (refO s en) w):=by
  have hb4:=Blk.new w 32 #[.slice none 0 0,.int .i64 0,.int .i64 0,.int .i64 0,.int .i64 0]
  have hbe:Below w.heap.size w (w.alloc (.cells #[.slice none 0 0,.int .i64 0,.int .i64 0,.int .i64 0,.int .i64 0] 32)):=(Below.refl _ w).alloc (Nat.le_refl _) _
  have hsz:(w.alloc (.cells #[.slice none 0 0,.int .i64 0,.int .i64 0,.int .i64 0,.int .i64 0] 32)).heap.size = w.heap.size + 1:=by simp
  have HB4:=Lib.hid hb4
  have HBE:=Lib.hid hbe
  have HSZ:=Lib.hid hsz
  clear hb4 hbe hsz
  rcases Nat.lt_or_ge 16777216 s.length with hl | hl
  · have HRO:Hid (refO s en = if (rdF flP (s.take 16777216) false 0).no = 0 then ⟨(rdF flP (s.take 16777216) false 0).toks,3,16777216,16777216,0⟩ else rdF flP (s.take 16777216) false 0):=Lib.hid (by unfold refO;rw [if_neg (by omega)])
    have HC:=Lib.hid (fun W=>rread_any (s.take 16777216) false W (by rw [List.length_take];omega))
    have hcut:=fun W=>run_headStr s hl W
    have hcut2:∀ W:World,(Instr.slice 9 (.string ⟨s.toArray⟩) none (some (.int .i64 16777216)) none).run Tryz.prog W = .ok (.string ⟨(s.take 16777216).toArray⟩) W:=fun W=>(run_sliceAt_string W _ _ _ _ _ Tryz.underlying9).symm.trans (hcut W)
    have d1:decide ((16777216:Int) < (s.length:Int)) = true:=decide_eq_true (by omega)
    obtain ⟨st,hst⟩:∃ st,s.take 16777216 = st:=⟨_,rfl⟩
    rw [hst] at HRO HC
    simp only [hst] at hcut hcut2
    obtain ⟨o,ho⟩:∃ o,rdF flP st false 0 = o:=⟨_,rfl⟩
    rw [ho] at HRO HC
    unfold OtE at HC
    clear hl hs hst ho
    go_enter Tryz.func12,Tryz.ntmps12
    go_wp2_with fail
    generalize w.alloc (.cells #[.slice none 0 0,.int .i64 0,.int .i64 0,.int .i64 0,.int .i64 0] 32) = W0 at *
    refine (HC.out _).mono ?_
    rintro e w1 ⟨v,rfl,hown,hb1⟩
    obtain ⟨A,cc,rfl,_⟩:=own_shape9 hown
    have HOWN:=Lib.hid hown
    have HB1:=Lib.hid hb1
    have hb4:=HB4.out.below hb1 HB4.out.lt
    have HB4w:=Lib.hid hb4
    have HBEw:=Lib.hid (HBE.out.trans (hb1.mono HBE.out.size))
    have HB4a:=Lib.hid (hb4.alloc (.cells #[.slice A o.toks.length cc,.int .i64 (o.no:Nat),.int .i64 (o.pos:Nat),.int .i64 (o.found:Nat),.int .i64 (o.held:Nat)] 32))
    have hb5:=Blk.new w1 32 #[.slice A o.toks.length cc,.int .i64 (o.no:Nat),.int .i64 (o.pos:Nat),.int .i64 (o.found:Nat),.int .i64 (o.held:Nat)]
    have HB5:=Lib.hid hb5
    have hs1:=hb1.size
    obtain ⟨n0,n1,n2,n3,n4⟩:=cells5 hb5
    have HOWNa:=Lib.hid (hown.alloc (.cells #[.slice A o.toks.length cc,.int .i64 (o.no:Nat),.int .i64 (o.pos:Nat),.int .i64 (o.found:Nat),.int .i64 (o.held:Nat)] 32))
    have HBEa:=Lib.hid ((HBE.out.trans (hb1.mono HBE.out.size)).alloc (Nat.le_trans HBE.out.size hs1) (.cells #[.slice A o.toks.length cc,.int .i64 (o.no:Nat),.int .i64 (o.pos:Nat),.int .i64 (o.found:Nat),.int .i64 (o.held:Nat)] 32))
    have hlt1:w.heap.size < w1.heap.size:=hb4.lt
    have HNE:=Lib.hid (show (Value.slice A o.toks.length cc).ownBlock ≠ some w1.heap.size from fun hk=>by have:=(hown.lt _ hk).2;omega)
    clear hown hb1 hb4 hb5 hcut hcut2
    by_cases h0:o.no = 0
    · have e0:((o.no:Int) == 0) = true:=by simp;omega
      have HRO2:Hid (refO s en = ⟨o.toks,3,16777216,16777216,0⟩):=Lib.hid (by rw [HRO.out,if_pos h0])
      have HWR:=Lib.hid (fun W=>rwrong9 (.slice A o.toks.length cc) (.int .i64 (o.no:Nat)) (.int .i64 (o.pos:Nat)) (.int .i64 (o.found:Nat)) (.int .i64 (o.held:Nat)) 3 16777216 W ⟨A,_,cc,rfl⟩)
      clear h0
      go_wp2_with fail
      refine (HWR.out _).mono ?_
      rintro e w2 ⟨rfl,hb2⟩
      have hb5:=HB5.out.below hb2 HB5.out.lt
      have hb4:=HB4a.out.below hb2 HB4a.out.lt
      have HO2:=Lib.hid (own_below9 HOWNa.out hb2)
      have HBE2:=Lib.hid (HBEa.out.trans (hb2.mono HBEa.out.size))
      have HK5:=Lib.hid hb5
      have HK4:=Lib.hid hb4
      clear hb4 hb5 hb2 e0
      unfold outV
      simp only []
      go_step
      refine wpList_store5 rfl (.tmp 5) (.tmp 16) rfl rfl w1.heap.size rfl A o.toks.length cc 3 16777216 16777216 0 rfl HK5.out ?_
      have HV5:=Lib.hid (set5_blk HK5.out (.slice A o.toks.length cc) (.int .i64 3) (.int .i64 16777216) (.int .i64 16777216) (.int .i64 0))
      have k4:Blk (set5 w2 w1.heap.size (.slice A o.toks.length cc) (.int .i64 3) (.int .i64 16777216) (.int .i64 16777216) (.int .i64 0)) w.heap.size 32 #[.slice none 0 0,.int .i64 0,.int .i64 0,.int .i64 0,.int .i64 0]:=by
        unfold set5
        exact ((((HK4.out.far (by simp;omega) _).far (by simp;omega) _).far (by simp;omega) _).far (by simp;omega) _).far (by simp;omega) _
      have HVO:=Lib.hid (own_keep HO2.out (w':=set5 w2 w1.heap.size (.slice A o.toks.length cc) (.int .i64 3) (.int .i64 16777216) (.int .i64 16777216) (.int .i64 0)) (fun k hk=>by
        have hne:k ≠ w1.heap.size:=fun e=>absurd hk (e ▸ HNE.out)
        unfold set5
        rw [Below.heap_setCell _ _ _ k hne,Below.heap_setCell _ _ _ k hne,Below.heap_setCell _ _ _ k hne,Below.heap_setCell _ _ _ k hne,Below.heap_setCell _ _ _ k hne]))
      have HVB:=Lib.hid (set5_below HBE2.out (g:=w1.heap.size) (by omega) (.slice A o.toks.length cc) (.int .i64 3) (.int .i64 16777216) (.int .i64 16777216) (.int .i64 0))
      obtain ⟨V,hV⟩:∃ V,set5 w2 w1.heap.size (.slice A o.toks.length cc) (.int .i64 3) (.int .i64 16777216) (.int .i64 16777216) (.int .i64 0) = V:=⟨_,rfl⟩
      have hv5:=HV5.out
      have hvo:=HVO.out
      have hvb:=HVB.out
      simp only [hV] at hv5 hvo hvb k4 ⊢
      clear hV HV5 HVO HVB
      obtain ⟨n0,n1,n2,n3,n4⟩:=cells5 hv5
      obtain ⟨m0,m1,m2,m3,m4⟩:=cells5 k4
      have f0:=k4.frozen 0
      have f1:=k4.frozen 1
      have f2:=k4.frozen 2
      have f3:=k4.frozen 3
      have f4:=k4.frozen 4
      have HK4:=Lib.hid k4
      have HVO:=Lib.hid hvo
      have HVB:=Lib.hid hvb
      clear k4 hvo hvb hv5
      go_wp2_with fail
      rw [HRO2.out]
      refine rd_end (o:=⟨o.toks,3,16777216,16777216,0⟩) rfl rfl (set5_blk HK4.out _ _ _ _ _) (own_base (own_set5 HVO.out (by have:=HSZ.out;omega) _ _ _ _ _) (fun k hk=>by have:=(HVO.out.lt k hk).1;have:=HSZ.out;omega)) (set5_below HVB.out (Nat.le_refl _) _ _ _ _ _)
    · have e0:((o.no:Int) == 0) = false:=by simp;omega
      have HRO2:Hid (refO s en = o):=Lib.hid (by rw [HRO.out,if_neg h0])
      clear h0
      obtain ⟨m0,m1,m2,m3,m4⟩:=cells5 HB4w.out
      have f0:=HB4w.out.frozen 0
      have f1:=HB4w.out.frozen 1
      have f2:=HB4w.out.frozen 2
      have f3:=HB4w.out.frozen 3
      have f4:=HB4w.out.frozen 4
      go_wp2_with fail
      rw [HRO2.out]
      refine rd_end rfl rfl ((set5_blk HB4w.out _ _ _ _ _).alloc _) (own_base ((own_set5 HOWN.out (by have:=HSZ.out;omega) _ _ _ _ _).alloc _) (fun k hk=>by have:=(HOWN.out.lt k hk).1;have:=HSZ.out;omega)) ((set5_below HBEw.out (Nat.le_refl _) _ _ _ _ _).alloc (by rw [set5_size];exact HBEw.out.size) _)
  · have HRO:Hid (refO s en = rdF flP s en 0):=Lib.hid (by unfold refO;rw [if_pos hl])
    have HC:=Lib.hid (fun W=>rread_any s en W hs)
    have d1:decide ((16777216:Int) < (s.length:Int)) = false:=decide_eq_false (by omega)
    obtain ⟨o,ho⟩:∃ o,rdF flP s en 0 = o:=⟨_,rfl⟩
    rw [ho] at HRO HC
    unfold OtE at HC
    clear hl hs ho
    go_enter Tryz.func12,Tryz.ntmps12
    go_wp2_with fail
    generalize w.alloc (.cells #[.slice none 0 0,.int .i64 0,.int .i64 0,.int .i64 0,.int .i64 0] 32) = W0 at *
    refine (HC.out _).mono ?_
    rintro e w1 ⟨v,rfl,hown,hb1⟩
    obtain ⟨A,cc,rfl,_⟩:=own_shape9 hown
    have HOWN:=Lib.hid hown
    have hb4:=HB4.out.below hb1 HB4.out.lt
    have HB4a:=Lib.hid hb4
    have HBEa:=Lib.hid (HBE.out.trans (hb1.mono HBE.out.size))
    obtain ⟨m0,m1,m2,m3,m4⟩:=cells5 hb4
    have f0:=hb4.frozen 0
    have f1:=hb4.frozen 1
    have f2:=hb4.frozen 2
    have f3:=hb4.frozen 3
    have f4:=hb4.frozen 4
    clear hown hb1 hb4
    go_wp2_with fail
    rw [HRO.out]
    refine rd_end rfl rfl (set5_blk HB4a.out _ _ _ _ _) (own_base (own_set5 HOWN.out (by have:=HSZ.out;omega) _ _ _ _ _) (fun k hk=>by have:=(HOWN.out.lt k hk).1;have:=HSZ.out;omega)) (set5_below HBEa.out (Nat.le_refl _) _ _ _ _ _)
end Go.Proofs.YtgmholdkdppbmaaGreatDoor.Lx

namespace Go.Proofs.YtgmholdkdppbmaaGreatDoor.Lx
open Go.RowKit Go.Extern.Stop Go.Stop Go.Extern Go.Lib
theorem ta_eno (n:Int) (w:World):(Instr.typeAssert (.iface 30 (.int .i64 n)) 26 30 true).run Tryz.prog w = .ok (.tuple #[.int .i64 n,.bool true]) w:=by kernel_rfl
theorem ta_spot (no at_:Int) (w:World):(Instr.typeAssert (.iface 95 (.agg #[.int .i64 no,.int .i64 at_])) 26 95 true).run Tryz.prog w = .ok (.tuple #[.agg #[.int .i64 no,.int .i64 at_],.bool true]) w:=by kernel_rfl
theorem errno_yes (n:Int) (w:World) :
    Calls Tryz.prog 16 #[.iface 30 (.int .i64 n),.int .i64 n] w fun e w'=>e = .returned (.bool true) ∧ w = w':=by
  have ta:=fun w=>ta_eno n w
  have h1:(n == n) = true:=by simp
  go_enter Tryz.func16,Tryz.ntmps16
  go_wp2
  go_ret
  exact ⟨rfl,rfl⟩
theorem beyond_any (n:Nat) (w:World) (hn:n ≤ 9223372036854775807) :
    Calls Tryz.prog 10 #[.int .i64 n] w fun e w'=>e = .returned (.bool (decide (2147483647 < n))) ∧ w = w':=by
  go_enter Tryz.func10,Tryz.ntmps10
  go_wp2
  go_ret
  exact ⟨by simp;omega,rfl⟩
theorem isTypeOf (v:Value) (w:World):(Extern.ReflectliteType.typeOf #[.iface 30 v]).run Tryz.prog w = .ok (.iface 163 (.agg #[.pointer (some ⟨4,30,none⟩)])) w:=by kernel_rfl
theorem callComparable (w:World):(callFunc 198 #[.agg #[.pointer (some ⟨4,30,none⟩)]]).run Tryz.prog w = .ok (Next.value (.bool true)) w:=by
  rw [@run_callFunc_extern Tryz.prog 198 _ (Extern.ReflectliteType.method fun t=>do Extern.Rtype.noPackHeld "Comparable" t;pure (.bool (← typeInfo t).comparable)) Tryz.func198 (by kernel_rfl) (by kernel_rfl) (by kernel_rfl) (by kernel_rfl)]
  have h:((Extern.ReflectliteType.method fun t=>do Extern.Rtype.noPackHeld "Comparable" t;pure (.bool (← typeInfo t).comparable)) #[.agg #[.pointer (some ⟨4,30,none⟩)]]).run Tryz.prog w = .ok (.bool true) w:=by kernel_rfl
  rw [h]
  rfl
theorem isComp:(Tryz.prog.info? 30).map (·.comparable) = some true:=by kernel_rfl
theorem noIsS (v:Value) (xT:TypeId) (w:World):(Instr.typeAssert (.iface 95 v) xT 165 true).run Tryz.prog w = .ok (.tuple #[.nilIface,.bool false]) w:=run_typeAssert_lacksB Tryz.underlying165 (by kernel_rfl) (by kernel_rfl) v xT w
theorem hasUnwrapS (v:Value) (xT:TypeId) (w:World):(Instr.typeAssert (.iface 95 v) xT 168 true).run Tryz.prog w = .ok (.tuple #[.iface 95 v,.bool true]) w:=run_typeAssert_hasB Tryz.underlying168 (by kernel_rfl) v xT w
theorem unwrap_any (no at_:Int) (w:World) :
    Calls Tryz.prog 186 #[.agg #[.int .i64 no,.int .i64 at_]] w fun e w'=>e = .returned (eno no) ∧ Below w.heap.size w w':=by
  go_enter Tryz.func186,Tryz.ntmps186
  go_wp2
  go_ret
  exact ⟨rfl,(Below.refl _ _).alloc (Nat.le_refl _) _⟩
set_option maxRecDepth 100000 in
theorem is_spot (no at_:Int) (w:World) :
    Calls Tryz.prog 55 #[spotE no at_,eno no] w fun e w'=>e = .returned (.bool true) ∧ Below w.heap.size w w':=by
  have h8:=@run_callFunc_extern Tryz.prog 66 _ Extern.ReflectliteType.typeOf Tryz.func66 (by kernel_rfl) (by kernel_rfl) (by kernel_rfl) (by kernel_rfl)
  have h32:=callComparable
  have tT:=isTypeOf
  have nS:=noIsS
  have uS:=hasUnwrapS
  have hty:=run_eql_iface_types (P:=Tryz.prog) 95 30 (.agg #[.int .i64 no,.int .i64 at_]) (.int .i64 no) Tryz.underlying26 (by decide) w
  go_enter Tryz.func55,Tryz.ntmps55
  go_wp2
  have hi:=fun W=>run_eql_iface_int (P:=Tryz.prog) W (k:=.i64) no no Tryz.underlying26 isComp Tryz.underlying30
  refine wp_loop_rounds 2 ?_
  rw [rounds_succ]
  go_wp2_with (go_at_call 186;refine (unwrap_any _ _ _).mono ?_;rintro e w1 ⟨rfl,hb⟩)
  rw [rounds_succ]
  go_wp2
  go_ret
  exact ⟨rfl,hb⟩
set_option maxRecDepth 100000 in
theorem spot_yes (no at_:Int) (w:World) :
    Calls Tryz.prog 37 #[spotE no at_,.int .i64 no,.int .i64 at_] w fun e w'=>e = .returned (.bool true) ∧ Below w.heap.size w w':=by
  have ta:=ta_spot no at_
  have h1:(no == no) = true:=by simp
  have h2:(at_ == at_) = true:=by simp
  go_enter Tryz.func37,Tryz.ntmps37
  go_wp2_with fail
  refine (is_spot _ _ _).mono ?_
  rintro e w2 ⟨rfl,hb2⟩
  go_wp2_with fail
  go_ret
  exact ⟨rfl,keepb ((Below.refl _ _).alloc (Nat.le_refl _) _) hb2⟩
def errV (no p:Nat):Value:=if no = 0 then .nilIface else spotE (no:Nat) (p:Nat)
set_option maxRecDepth 100000 in
theorem tells_any (v:Value) (no p f h:Nat) (w:World) (hv:∃ A n c,v = .slice A n c) :
    Calls Tryz.prog 24 #[errV no p,outV v no p f h] w fun e w'=>e = .returned (.bool true) ∧ Below w.heap.size w w':=by
  obtain ⟨A,n,c,rfl⟩:=hv
  have hb:=Blk.new w 32 #[.slice A n c,.int .i64 (no:Nat),.int .i64 (p:Nat),.int .i64 (f:Nat),.int .i64 (h:Nat)]
  obtain ⟨n0,n1,n2,n3,n4⟩:=cells5 hb
  clear hb
  unfold errV
  by_cases h0:no = 0
  · rw [if_pos h0]
    have hz:((no:Int) == 0) = true:=by simpa using h0
    clear h0
    go_enter Tryz.func24,Tryz.ntmps24
    go_wp2_with fail
    go_ret
    exact ⟨rfl,(Below.refl _ _).alloc (Nat.le_refl _) _⟩
  · rw [if_neg h0]
    have hz:((no:Int) == 0) = false:=by simpa using h0
    clear h0
    go_enter Tryz.func24,Tryz.ntmps24
    go_wp2_with fail
    refine (spot_yes _ _ _).mono ?_
    rintro e w1 ⟨rfl,hb1⟩
    go_wp2_with fail
    go_ret
    exact ⟨rfl,keepb ((Below.refl _ _).alloc (Nat.le_refl _) _) hb1⟩
end Go.Proofs.YtgmholdkdppbmaaGreatDoor.Lx
