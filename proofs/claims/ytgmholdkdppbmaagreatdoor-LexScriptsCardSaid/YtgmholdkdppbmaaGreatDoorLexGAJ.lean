/-
  Texts of the proof of 'LexG': RefG, LexRT, LexRF, LexRC, LexRD, LexRE, LexRG.
-/
import Derived.Test.YtgmholdkdppbmaaGreatDoorLexGAE
import Derived.Test.YtgmholdkdppbmaaGreatDoorLexGAI
import Derived.Deep.QuietTactic
import Derived.BigQuiet
import Derived.Maps.AppendAt
import Derived.Deep.DrawnRows
set_option linter.unusedVariables false
set_option linter.unusedSimpArgs false
namespace Go.Proofs.YtgmholdkdppbmaaGreatDoor
open Go.RowKit
attribute [local go_sem] SGives_value SGives_skip SGives_enter CGives_value CGives_skip CGives_enter MGives_value MGives_skip MGives_enter
set_option maxRecDepth 100000 in
set_option maxHeartbeats 2000000 in
theorem rshort_any (d:Dm) (w:World) (hl:d.2.1.length ≤ 140737488353000) (hx:-2000000000000000 ≤ d.2.2 ∧ d.2.2 ≤ 2000000000000000) :
    Calls Tryz.prog 89 #[decV d] w fun e w'=>e = .returned (decV (shortD d)) ∧ Below w.heap.size w w':=by
  obtain ⟨g,l,ex⟩:=d
  simp only at hl hx
  obtain ⟨hx1,hx2⟩:=hx
  have HB0:=Lib.hid (((Below.refl _ w).alloc (Nat.le_refl _) (.cells #[.bool g,.string ⟨l.toArray⟩,.int .i64 ex] 134)).alloc (by simp) (.cells #[.bool false,.string ⟨#[]⟩,.int .i64 0] 134))
  have HK0:=Lib.hid ((Blk.new w 134 #[.bool g,.string ⟨l.toArray⟩,.int .i64 ex]).alloc (.cells #[.bool false,.string ⟨#[]⟩,.int .i64 0] 134))
  have HJ0:=Lib.hid (Blk.new2 w 134 #[.bool false,.string ⟨#[]⟩,.int .i64 0] (.cells #[.bool g,.string ⟨l.toArray⟩,.int .i64 ex] 134))
  unfold decV sv
  by_cases h8:800 < l.length
  · have HS:=Lib.hid (show shortD (g,l,ex) = (g,l.take 800 ++ [49],ex + l.length - 801) from if_pos h8)
    obtain ⟨sd,hsd⟩:∃ sd,shortD (g,l,ex) = sd:=⟨_,rfl⟩
    rw [hsd] at HS ⊢
    have t1:decide ((800:Int) < (l.length:Int)) = true:=decide_eq_true (by omega)
    have t1':decide (800 < l.length) = true:=decide_eq_true h8
    have e1:IntKind.i64.wrap (ex + (l.length:Int)) = ex + l.length:=IntWalk.i64_in _ (by omega)
    have e2:IntKind.i64.wrap (ex + (l.length:Int) - 801) = ex + l.length - 801:=IntWalk.i64_in _ (by omega)
    have hI:(800:Int) ≤ (l.length:Int):=by omega
    have hLI:(l.length:Int) ≤ 140737488353000:=by omega
    have hext:(⟨l.toArray⟩:ByteArray).extract 0 800 = ⟨(l.take 800).toArray⟩:=by rw [ext_cut];unfold cutL;rw [List.drop_zero]
    have hlen:(l.take 800).length = 800:=by rw [List.length_take];omega
    have hcat:((⟨(l.take 800).toArray⟩:ByteArray) ++ ⟨#[49]⟩) = ⟨(l.take 800 ++ [49]).toArray⟩:=sv_cat (l.take 800) [49]
    clear hsd h8
    generalize l.take 800 = m at *
    go_enter Tryz.func89,Tryz.ntmps89
    go_upto_region 2 with fail
    generalize hW:(w.alloc (.cells #[.bool g,.string ⟨l.toArray⟩,.int .i64 ex] 134)).alloc (.cells #[.bool false,.string ⟨#[]⟩,.int .i64 0] 134) = W at *
    have SDL:w.heap.size ≤ w.heap.size:=by first | exact Nat.le_refl _ | omega | (simp;done)
    obtain ⟨S,SD⟩:∃ S:World → Prop,Go.RowKit.Hid (∀ w':World,S w' ↔ (Blk w' w.heap.size 134 #[.bool g,.string ⟨l.toArray⟩,.int .i64 ex] ∧ (∃ u0 u1 u2,Blk w' (w.heap.size + 1) 134 #[u0,u1,u2]) ∧ Below w.heap.size w w')):=⟨_,Lib.hid (fun _=>Iff.rfl)⟩
    refine wp_region_way (S:=S) (by kernel_rfl) (by kernel_rfl) (fun W W' h hb=>by obtain ⟨h0,⟨u1_0,u1_1,u1_2,h1⟩,hB⟩:=(SD.out _).1 h;exact (SD.out _).2 ⟨h0.st hb,⟨u1_0,u1_1,u1_2,h1.st hb⟩,hB.trans (hb.mono (Nat.le_trans SDL hB.size))⟩) ((SD.out _).2 (⟨HK0.out.drew,⟨_,_,_,HJ0.out.drew⟩,HB0.out.drew⟩)) ?_
    first
      | (refine Way.no 0 (by rfl) (by kernel_rfl) (by rfl) ?_;simp only [Act.put,List.setIfInBounds_toArray,List.set_cons_zero,List.set_cons_succ])
      | (refine' Way.yes 0 (by rfl) (by kernel_rfl) (by rfl) (fun wS hS=>?_) ?_
         rotate_left
         · have hS':=(SD.out _).1 hS
           obtain ⟨hb0,⟨u1_0,u1_1,u1_2,hb1⟩,hB⟩:=hS'
           have c0_0:=hb0.cell 0
           have c0_1:=hb0.cell 1
           have c0_2:=hb0.cell 2
           have c1_0:=hb1.cell 0
           have c1_1:=hb1.cell 1
           have c1_2:=hb1.cell 2
           go_simp
           first
             | exact ⟨rfl,Below.refl _ _⟩
         simp only [Act.put,List.setIfInBounds_toArray,List.set_cons_zero,List.set_cons_succ])
    first
      | (refine Way.no 1 (by rfl) (by kernel_rfl) (by rfl) ?_;simp only [Act.put,List.setIfInBounds_toArray,List.set_cons_zero,List.set_cons_succ])
      | (refine' Way.yes 1 (by rfl) (by kernel_rfl) (by rfl) (fun wS hS=>?_) ?_
         rotate_left
         · have hS':=(SD.out _).1 hS
           obtain ⟨hb0,⟨u1_0,u1_1,u1_2,hb1⟩,hB⟩:=hS'
           have c0_0:=hb0.cell 0
           have c0_1:=hb0.cell 1
           have c0_2:=hb0.cell 2
           have c1_0:=hb1.cell 0
           have c1_1:=hb1.cell 1
           have c1_2:=hb1.cell 2
           go_simp
           first
             | exact ⟨rfl,Below.refl _ _⟩
         simp only [Act.put,List.setIfInBounds_toArray,List.set_cons_zero,List.set_cons_succ])
    first
      | (refine Way.no 2 (by rfl) (by kernel_rfl) (by rfl) ?_;simp only [Act.put,List.setIfInBounds_toArray,List.set_cons_zero,List.set_cons_succ])
      | (refine' Way.yes 2 (by rfl) (by kernel_rfl) (by rfl) (fun wS hS=>?_) ?_
         rotate_left
         · have hS':=(SD.out _).1 hS
           obtain ⟨hb0,⟨u1_0,u1_1,u1_2,hb1⟩,hB⟩:=hS'
           have c0_0:=hb0.cell 0
           have c0_1:=hb0.cell 1
           have c0_2:=hb0.cell 2
           have c1_0:=hb1.cell 0
           have c1_1:=hb1.cell 1
           have c1_2:=hb1.cell 2
           go_simp
           first
             | exact ⟨rfl,Below.refl _ _⟩
         simp only [Act.put,List.setIfInBounds_toArray,List.set_cons_zero,List.set_cons_succ])
    first
      | (refine Way.no 3 (by rfl) (by kernel_rfl) (by rfl) ?_;simp only [Act.put,List.setIfInBounds_toArray,List.set_cons_zero,List.set_cons_succ])
      | (refine' Way.yes 3 (by rfl) (by kernel_rfl) (by rfl) (fun wS hS=>?_) ?_
         rotate_left
         · have hS':=(SD.out _).1 hS
           obtain ⟨hb0,⟨u1_0,u1_1,u1_2,hb1⟩,hB⟩:=hS'
           have c0_0:=hb0.cell 0
           have c0_1:=hb0.cell 1
           have c0_2:=hb0.cell 2
           have c1_0:=hb1.cell 0
           have c1_1:=hb1.cell 1
           have c1_2:=hb1.cell 2
           go_simp
           first
             | exact ⟨rfl,Below.refl _ _⟩
         simp only [Act.put,List.setIfInBounds_toArray,List.set_cons_zero,List.set_cons_succ])
    first
      | (refine Way.no 4 (by rfl) (by kernel_rfl) (by rfl) ?_;simp only [Act.put,List.setIfInBounds_toArray,List.set_cons_zero,List.set_cons_succ])
      | (refine' Way.yes 4 (by rfl) (by kernel_rfl) (by rfl) (fun wS hS=>?_) ?_
         rotate_left
         · have hS':=(SD.out _).1 hS
           obtain ⟨hb0,⟨u1_0,u1_1,u1_2,hb1⟩,hB⟩:=hS'
           have c0_0:=hb0.cell 0
           have c0_1:=hb0.cell 1
           have c0_2:=hb0.cell 2
           have c1_0:=hb1.cell 0
           have c1_1:=hb1.cell 1
           have c1_2:=hb1.cell 2
           go_simp
           first
             | exact ⟨rfl,Below.refl _ _⟩
         simp only [Act.put,List.setIfInBounds_toArray,List.set_cons_zero,List.set_cons_succ])
    first
      | (refine Way.no 5 (by rfl) (by kernel_rfl) (by rfl) ?_;simp only [Act.put,List.setIfInBounds_toArray,List.set_cons_zero,List.set_cons_succ])
      | (refine' Way.yes 5 (by rfl) (by kernel_rfl) (by rfl) (fun wS hS=>?_) ?_
         rotate_left
         · have hS':=(SD.out _).1 hS
           obtain ⟨hb0,⟨u1_0,u1_1,u1_2,hb1⟩,hB⟩:=hS'
           have c0_0:=hb0.cell 0
           have c0_1:=hb0.cell 1
           have c0_2:=hb0.cell 2
           have c1_0:=hb1.cell 0
           have c1_1:=hb1.cell 1
           have c1_2:=hb1.cell 2
           go_simp
           first
             | exact ⟨rfl,Below.refl _ _⟩
         simp only [Act.put,List.setIfInBounds_toArray,List.set_cons_zero,List.set_cons_succ])
    first
      | (refine Way.no 6 (by rfl) (by kernel_rfl) (by rfl) ?_;simp only [Act.put,List.setIfInBounds_toArray,List.set_cons_zero,List.set_cons_succ])
      | (refine' Way.yes 6 (by rfl) (by kernel_rfl) (by rfl) (fun wS hS=>?_) ?_
         rotate_left
         · have hS':=(SD.out _).1 hS
           obtain ⟨hb0,⟨u1_0,u1_1,u1_2,hb1⟩,hB⟩:=hS'
           have c0_0:=hb0.cell 0
           have c0_1:=hb0.cell 1
           have c0_2:=hb0.cell 2
           have c1_0:=hb1.cell 0
           have c1_1:=hb1.cell 1
           have c1_2:=hb1.cell 2
           go_simp
           first
             | exact ⟨rfl,Below.refl _ _⟩
         simp only [Act.put,List.setIfInBounds_toArray,List.set_cons_zero,List.set_cons_succ])
    first
      | (refine Way.no 7 (by rfl) (by kernel_rfl) (by rfl) ?_;simp only [Act.put,List.setIfInBounds_toArray,List.set_cons_zero,List.set_cons_succ])
      | (refine' Way.yes 7 (by rfl) (by kernel_rfl) (by rfl) (fun wS hS=>?_) ?_
         rotate_left
         · have hS':=(SD.out _).1 hS
           obtain ⟨hb0,⟨u1_0,u1_1,u1_2,hb1⟩,hB⟩:=hS'
           have c0_0:=hb0.cell 0
           have c0_1:=hb0.cell 1
           have c0_2:=hb0.cell 2
           have c1_0:=hb1.cell 0
           have c1_1:=hb1.cell 1
           have c1_2:=hb1.cell 2
           go_simp
           first
             | exact ⟨rfl,Below.refl _ _⟩
         simp only [Act.put,List.setIfInBounds_toArray,List.set_cons_zero,List.set_cons_succ])
    first
      | (refine Way.no 8 (by rfl) (by kernel_rfl) (by rfl) ?_;simp only [Act.put,List.setIfInBounds_toArray,List.set_cons_zero,List.set_cons_succ])
      | (refine' Way.yes 8 (by rfl) (by kernel_rfl) (by rfl) (fun wS hS=>?_) ?_
         rotate_left
         · have hS':=(SD.out _).1 hS
           obtain ⟨hb0,⟨u1_0,u1_1,u1_2,hb1⟩,hB⟩:=hS'
           have c0_0:=hb0.cell 0
           have c0_1:=hb0.cell 1
           have c0_2:=hb0.cell 2
           have c1_0:=hb1.cell 0
           have c1_1:=hb1.cell 1
           have c1_2:=hb1.cell 2
           go_simp
           first
             | exact ⟨rfl,Below.refl _ _⟩
         simp only [Act.put,List.setIfInBounds_toArray,List.set_cons_zero,List.set_cons_succ])
    first
      | (refine Way.no 9 (by rfl) (by kernel_rfl) (by rfl) ?_;simp only [Act.put,List.setIfInBounds_toArray,List.set_cons_zero,List.set_cons_succ])
      | (refine' Way.yes 9 (by rfl) (by kernel_rfl) (by rfl) (fun wS hS=>?_) ?_
         rotate_left
         · have hS':=(SD.out _).1 hS
           obtain ⟨hb0,⟨u1_0,u1_1,u1_2,hb1⟩,hB⟩:=hS'
           have c0_0:=hb0.cell 0
           have c0_1:=hb0.cell 1
           have c0_2:=hb0.cell 2
           have c1_0:=hb1.cell 0
           have c1_1:=hb1.cell 1
           have c1_2:=hb1.cell 2
           go_simp
           first
             | exact ⟨rfl,Below.refl _ _⟩
         simp only [Act.put,List.setIfInBounds_toArray,List.set_cons_zero,List.set_cons_succ])
    first
      | (refine Way.no 10 (by rfl) (by kernel_rfl) (by rfl) ?_;simp only [Act.put,List.setIfInBounds_toArray,List.set_cons_zero,List.set_cons_succ])
      | (refine' Way.yes 10 (by rfl) (by kernel_rfl) (by rfl) (fun wS hS=>?_) ?_
         rotate_left
         · have hS':=(SD.out _).1 hS
           obtain ⟨hb0,⟨u1_0,u1_1,u1_2,hb1⟩,hB⟩:=hS'
           have c0_0:=hb0.cell 0
           have c0_1:=hb0.cell 1
           have c0_2:=hb0.cell 2
           have c1_0:=hb1.cell 0
           have c1_1:=hb1.cell 1
           have c1_2:=hb1.cell 2
           go_simp
           first
             | exact ⟨rfl,Below.refl _ _⟩
         simp only [Act.put,List.setIfInBounds_toArray,List.set_cons_zero,List.set_cons_succ])
    first
      | (refine Way.no 11 (by rfl) (by kernel_rfl) (by rfl) ?_;simp only [Act.put,List.setIfInBounds_toArray,List.set_cons_zero,List.set_cons_succ])
      | (refine' Way.yes 11 (by rfl) (by kernel_rfl) (by rfl) (fun wS hS=>?_) ?_
         rotate_left
         · have hS':=(SD.out _).1 hS
           obtain ⟨hb0,⟨u1_0,u1_1,u1_2,hb1⟩,hB⟩:=hS'
           have c0_0:=hb0.cell 0
           have c0_1:=hb0.cell 1
           have c0_2:=hb0.cell 2
           have c1_0:=hb1.cell 0
           have c1_1:=hb1.cell 1
           have c1_2:=hb1.cell 2
           go_simp
           first
             | exact ⟨rfl,Below.refl _ _⟩
         simp only [Act.put,List.setIfInBounds_toArray,List.set_cons_zero,List.set_cons_succ])
    first
      | (refine Way.no 12 (by rfl) (by kernel_rfl) (by rfl) ?_;simp only [Act.put,List.setIfInBounds_toArray,List.set_cons_zero,List.set_cons_succ])
      | (refine' Way.yes 12 (by rfl) (by kernel_rfl) (by rfl) (fun wS hS=>?_) ?_
         rotate_left
         · have hS':=(SD.out _).1 hS
           obtain ⟨hb0,⟨u1_0,u1_1,u1_2,hb1⟩,hB⟩:=hS'
           have c0_0:=hb0.cell 0
           have c0_1:=hb0.cell 1
           have c0_2:=hb0.cell 2
           have c1_0:=hb1.cell 0
           have c1_1:=hb1.cell 1
           have c1_2:=hb1.cell 2
           go_simp
           first
             | exact ⟨rfl,Below.refl _ _⟩
         simp only [Act.put,List.setIfInBounds_toArray,List.set_cons_zero,List.set_cons_succ])
    first
      | (refine Way.no 13 (by rfl) (by kernel_rfl) (by rfl) ?_;simp only [Act.put,List.setIfInBounds_toArray,List.set_cons_zero,List.set_cons_succ])
      | (refine' Way.yes 13 (by rfl) (by kernel_rfl) (by rfl) (fun wS hS=>?_) ?_
         rotate_left
         · have hS':=(SD.out _).1 hS
           obtain ⟨hb0,⟨u1_0,u1_1,u1_2,hb1⟩,hB⟩:=hS'
           have c0_0:=hb0.cell 0
           have c0_1:=hb0.cell 1
           have c0_2:=hb0.cell 2
           have c1_0:=hb1.cell 0
           have c1_1:=hb1.cell 1
           have c1_2:=hb1.cell 2
           go_simp
           first
             | exact ⟨rfl,Below.refl _ _⟩
         simp only [Act.put,List.setIfInBounds_toArray,List.set_cons_zero,List.set_cons_succ])
    refine Way.move 14 (by rfl) (by kernel_rfl) (by rfl) (fun wS hS=>?_)
    have hS':=(SD.out _).1 hS
    obtain ⟨hb0,⟨u1_0,u1_1,u1_2,hb1⟩,hB⟩:=hS'
    have c0_0:=hb0.cell 0
    have c0_1:=hb0.cell 1
    have c0_2:=hb0.cell 2
    have c1_0:=hb1.cell 0
    have c1_1:=hb1.cell 1
    have c1_2:=hb1.cell 2
    have f1_0:=hb1.frozen 0
    have f1_1:=hb1.frozen 1
    have f1_2:=hb1.frozen 2
    go_simp
    obtain ⟨S_1,SD_1⟩:∃ S_1:World → Prop,Go.RowKit.Hid (∀ x:World,S_1 x ↔ (Blk x w.heap.size 134 #[.bool g,.string ⟨l.toArray⟩,.int .i64 ex] ∧ Blk x (w.heap.size + 1) 134 #[.bool g,.string ⟨(m ++ [49]).toArray⟩,.int .i64 (ex + l.length - 801)] ∧ Below w.heap.size w x)):=⟨_,Lib.hid (fun _=>Iff.rfl)⟩
    have hst:Stays S_1:=fun W W' h hb=>by obtain ⟨h0,h1,hB⟩:=(SD_1.out _).1 h;exact (SD_1.out _).2 ⟨h0.st hb,h1.st hb,hB.trans (hb.mono (Nat.le_trans SDL hB.size))⟩
    have hle:∀ x,S_1 x → S x:=fun x h=>by obtain ⟨h0,h1,hB⟩:=(SD_1.out _).1 h;exact (SD.out _).2 ⟨h0,⟨_,_,_,h1⟩,hB⟩
    refine Moved.keep S_1 hst hle ((SD_1.out _).2 ⟨(((hb0.far (by first | (simp;done) | (simp;omega)) _).far (by first | (simp;done) | (simp;omega)) _).far (by first | (simp;done) | (simp;omega)) _),(((hb1.set1 0 _).set1 1 _).set1 2 _),(((hB.setCell (by first | (simp;done) | (simp;omega)) _).setCell (by first | (simp;done) | (simp;omega)) _).setCell (by first | (simp;done) | (simp;omega)) _)⟩) ?_
    try simp only [Act.put,List.setIfInBounds_toArray,List.set_cons_zero,List.set_cons_succ]
    refine Way.done (by kernel_rfl) (fun wE hS=>?_)
    have hS':=(SD_1.out _).1 hS
    obtain ⟨hb0,hb1,hB⟩:=hS'
    have c0_0:=hb0.cell 0
    have c0_1:=hb0.cell 1
    have c0_2:=hb0.cell 2
    have c1_0:=hb1.cell 0
    have c1_1:=hb1.cell 1
    have c1_2:=hb1.cell 2
    clear hS
    go_wp2_with fail
    obtain ⟨c0,c1,c2⟩:wE.cell? ⟨w.heap.size + 1,0,none⟩ = some (.bool g) ∧ wE.cell? ⟨w.heap.size + 1,1,none⟩ = some (.string ⟨(m ++ [(49:UInt8)]).toArray⟩) ∧ wE.cell? ⟨w.heap.size + 1,2,none⟩ = some (.int .i64 (ex + l.length - 801)):=⟨hb1.cell 0,hb1.cell 1,hb1.cell 2⟩
    exact bodyPost_ret (v:=.agg #[.bool g,.string ⟨(m ++ [49]).toArray⟩,.int .i64 (ex + l.length - 801)]) (by simp [results,Tryz.results89,go_sem,c0,c1,c2]) rfl ⟨by rw [HS.out],hB⟩
  · have HS:=Lib.hid (show shortD (g,l,ex) = (g,l,ex) from if_neg h8)
    obtain ⟨sd,hsd⟩:∃ sd,shortD (g,l,ex) = sd:=⟨_,rfl⟩
    rw [hsd] at HS ⊢
    have t1:decide ((800:Int) < (l.length:Int)) = false:=decide_eq_false (by omega)
    have t1':decide (800 < l.length) = false:=decide_eq_false h8
    clear hsd h8
    go_enter Tryz.func89,Tryz.ntmps89
    go_wp2_with fail
    exact bodyPost_ret (v:=.agg #[.bool g,.string ⟨l.toArray⟩,.int .i64 ex]) (by simp [results,Tryz.results89,go_sem]) rfl ⟨by rw [HS.out],by go_grown⟩
end Go.Proofs.YtgmholdkdppbmaaGreatDoor
namespace Go.Proofs.YtgmholdkdppbmaaGreatDoor
open Go.RowKit
theorem ten_b4 {x p N:Nat} (h:x < 10 ^ p) (hp:p ≤ 4 * N):x < B4 ^ N:=by
  rw [b4_ten]
  exact Nat.lt_of_lt_of_le h (Nat.pow_le_pow_right (by decide) hp)
theorem great_mag {N D m K:Nat} {k:Int} (hK:K = 320) (hm:m < 2 ^ 54) (h1:-1075 ≤ k) (h2:k ≤ 971) (h:10 ^ K * D ≤ N) (hD:0 < D):m * D * 2 ^ k.toNat < N * 2 ^ (-k).toNat:=by
  have h3:m * 2 ^ k.toNat < 10 ^ K:=by
    have ha:m * 2 ^ k.toNat < 2 ^ 54 * 2 ^ k.toNat:=Nat.mul_lt_mul_of_pos_right hm (Nat.pow_pos (by decide))
    rw [← Nat.pow_add] at ha
    obtain ⟨P,hP⟩:∃ P,P = 971:=⟨_,rfl⟩
    have hb:2 ^ (54 + k.toNat) ≤ 2 ^ (54 + P):=Nat.pow_le_pow_right (by decide) (by omega)
    have hc:2 ^ (54 + P) ≤ 10 ^ K:=by subst hK hP;decide +kernel
    exact Nat.lt_of_lt_of_le ha (Nat.le_trans hb hc)
  have h4:m * 2 ^ k.toNat * D < 10 ^ K * D:=Nat.mul_lt_mul_of_pos_right h3 hD
  have h5:N ≤ N * 2 ^ (-k).toNat:=Nat.le_mul_of_pos_right _ (Nat.pow_pos (by decide))
  have e:m * D * 2 ^ k.toNat = m * 2 ^ k.toNat * D:=by ac_rfl
  omega
theorem small_mag {N D m K:Nat} {k:Int} (hK:K = 340) (hm:0 < m) (h1:-1075 ≤ k) (h:N * 10 ^ K < D):N * 2 ^ (-k).toNat < m * D * 2 ^ k.toNat:=by
  have hb:2 ^ (-k).toNat ≤ 10 ^ K:=by
    obtain ⟨P,hP⟩:∃ P,P = 1075:=⟨_,rfl⟩
    have h2:2 ^ (-k).toNat ≤ 2 ^ P:=Nat.pow_le_pow_right (by decide) (by omega)
    have h3:2 ^ P ≤ 10 ^ K:=by subst hK hP;decide +kernel
    exact Nat.le_trans h2 h3
  have h4:N * 2 ^ (-k).toNat ≤ N * 10 ^ K:=Nat.mul_le_mul_left _ hb
  have h5:D ≤ m * D:=Nat.le_mul_of_pos_left _ hm
  have h6:m * D ≤ m * D * 2 ^ k.toNat:=Nat.le_mul_of_pos_right _ (Nat.pow_pos (by decide))
  omega
theorem ragainst_v {M:Nat} (hM:M = 1000000) (v u:Value) (x y:Nat) (w:World) (hv:RatW w v x) (hu:RatW w u y) (hx:x < B4 ^ M) (hy:y < B4 ^ M) :
    Calls Tryz.prog 95 #[v,u] w fun e w'=>e = .returned (.int .i64 (cmpI x y)) ∧ Below w.heap.size w w':=by
  subst hM
  exact ragainst_nat v u x y w hv hu hx hy
set_option maxRecDepth 100000 in
set_option maxHeartbeats 2000000 in
theorem ragv_main (g:Bool) (l:List UInt8) (x:Int) (g':Bool) (s:List UInt8) (y:Int) (m:Nat) (k:Int) (w:World) (hsh:shortD (g,l,x) = (g',s,y)) (hl:l.length ≤ 140737488353000) (hx1:-2000000000000000 ≤ x) (hx2:x ≤ 2000000000000000)
    (hl0:0 < l.length) (ht1:(l.length:Int) + x ≤ 320) (ht2:-340 ≤ (l.length:Int) + x) (hs8:s.length ≤ 801) (hsd:∀ c ∈ s,isD c = true) (hs0:0 < dval s) (hty:(s.length:Int) + y = (l.length:Int) + x)
    (hm0:0 < m) (hm:m < 2 ^ 54) (hk1:-1075 ≤ k) (hk2:k ≤ 971) :
    Calls Tryz.prog 73 #[decV (g,l,x),.int .u64 m,.int .i64 k] w fun e w'=>e = .returned (.int .i64 (cmpI (numD (g',s,y) * 2 ^ (-k).toNat) (m * denD (g',s,y) * 2 ^ k.toNat))) ∧ Below w.heap.size w w':=by
  obtain ⟨N,hN⟩:∃ N,N = 10000:=⟨_,rfl⟩
  obtain ⟨M,hM⟩:∃ M,M = 1000000:=⟨_,rfl⟩
  have HN:=Lib.hid hN
  have HM:=Lib.hid hM
  have HSH:Hid (∀ W,Calls Tryz.prog 89 #[.agg #[.bool g,.string ⟨l.toArray⟩,.int .i64 x]] W fun e w'=>e = .returned (.agg #[.bool g',.string ⟨s.toArray⟩,.int .i64 y]) ∧ Below W.heap.size W w'):=Lib.hid (fun W=>by
    have h:=rshort_any (g,l,x) W hl ⟨hx1,hx2⟩
    rw [hsh] at h
    exact h)
  have HS8:=Lib.hid hs8
  have HSD:=Lib.hid hsd
  have HS0:=Lib.hid hs0
  have HDL:Hid (dval s < 10 ^ s.length):=Lib.hid (dval_lt s hsd)
  have HMS:=Lib.hid hm
  have HM0:=Lib.hid hm0
  have HYT:Hid (y ≤ 320 ∧ -1141 ≤ y ∧ (0 ≤ y → (s.length:Int) ≤ 320 - y)):=Lib.hid ⟨by omega,by omega,fun _=>by omega⟩
  have t1:(((l.length:Nat):Int) == 0) = false:=by rw [beq_eq_false_iff_ne];omega
  have t1':(l.length == 0) = false:=by rw [beq_eq_false_iff_ne];omega
  have t2:((m:Int) == 0) = false:=by rw [beq_eq_false_iff_ne];omega
  have t2':(m == 0) = false:=by rw [beq_eq_false_iff_ne];omega
  have t3:decide ((320:Int) < (l.length:Int) + x) = false:=decide_eq_false (by omega)
  have t4:decide ((l.length:Int) + x < -340) = false:=decide_eq_false (by omega)
  have e1:IntKind.i64.wrap ((l.length:Int) + x) = (l.length:Int) + x:=IntWalk.i64_in _ (by omega)
  have hlI:(l.length:Int) ≤ 140737488353000:=by omega
  have HK0:=Lib.hid (Blk.new w 134 #[.bool g,.string ⟨l.toArray⟩,.int .i64 x])
  have HB0:=Lib.hid ((Below.refl _ w).alloc (Nat.le_refl _) (.cells #[.bool g,.string ⟨l.toArray⟩,.int .i64 x] 134))
  obtain ⟨W0,hW0⟩:∃ W0,w.alloc (.cells #[.bool g,.string ⟨l.toArray⟩,.int .i64 x] 134) = W0:=⟨_,rfl⟩
  rw [hW0] at HK0 HB0
  obtain ⟨c0,c1,c2,f0,f1,f2⟩:=HK0.out.three
  clear hN hM hsh hl hs8 hsd hs0 hm hm0 hl0
  unfold decV sv
  go_enter Tryz.func73,Tryz.ntmps73
  go_wp2_with fail
  refine (HSH.out _).mono ?_
  rintro e w1 ⟨rfl,hb1⟩
  have HK1:=Lib.hid (HK0.out.below hb1 HK0.out.lt)
  have HB1:=Lib.hid (keepb HB0.out hb1)
  clear c0 c1 c2 f0 f1 f2 hW0 hb1 t1 t1' t3 t4 e1 HSH
  obtain ⟨c0,c1,c2,f0,f1,f2⟩:=HK1.out.three
  go_upto_region 13 with fail
  clear c0 c1 c2 f0 f1 f2
  have HK2:=Lib.hid (((HK1.out.set1 0 (.bool g')).set1 1 (.string ⟨s.toArray⟩)).set1 2 (.int .i64 y))
  have HB2:=Lib.hid (below_put3 HB1.out (Nat.le_refl _) (.bool g') (.string ⟨s.toArray⟩) (.int .i64 y))
  generalize ((w1.setCell ⟨w.heap.size,0,none⟩ (.bool g')).setCell ⟨w.heap.size,1,none⟩ (.string ⟨s.toArray⟩)).setCell ⟨w.heap.size,2,none⟩ (.int .i64 y) = W2 at *
  have HK2:Hid (Blk W2 w.heap.size 134 #[.bool g',.string ⟨s.toArray⟩,.int .i64 y]):=Lib.hid HK2.out
  have HPA:=Lib.hid (rparse_any s W2 HS8.out HSD.out)
  obtain ⟨c0,c1,c2,f0,f1,f2⟩:=HK2.out.three
  go_wp2_with fail
  refine HPA.out.mono ?_
  rintro e w3 ⟨A3,n3,c3,b3,rfl,hl3,hb3⟩
  have HL3:=Lib.hid hl3
  have HK3:=Lib.hid (HK2.out.below hb3 HK2.out.lt)
  have HB3:=Lib.hid (keepb HB2.out hb3)
  clear hl3 hb3 HPA c0 c1 c2 f0 f1 f2
  go_upto_region 14 with fail
  obtain ⟨g8,hg8⟩:∃ g,w3.heap.size = g:=⟨_,rfl⟩
  obtain ⟨W4,hW4⟩:∃ W,w3.alloc (.cells #[.slice A3 n3 c3] 180) = W:=⟨_,rfl⟩
  have hb4:Below w3.heap.size w3 W4:=by rw [← hW4];exact below_new _ _
  have HX4:Hid (Blk W4 g8 180 #[.slice A3 n3 c3]):=Lib.hid (by rw [← hW4,← hg8];exact Blk.new w3 _ _)
  have HL4:=Lib.hid (HL3.out.below hb4)
  have HK4:=Lib.hid (HK3.out.below hb4 HK3.out.lt)
  have HB4:=Lib.hid (keepb HB3.out hb4)
  have HG8:Hid (w.heap.size < g8):=Lib.hid (by rw [← hg8];exact HK3.out.lt)
  rw [hg8,hW4]
  clear hg8 hW4 hb4
  have HOF:=Lib.hid (rof_nat m W4 (by have:=HMS.out;unfold W64;omega))
  go_wp2_with fail
  refine HOF.out.mono ?_
  rintro e w5 ⟨A5,n5,c5,rfl,hl5,hb5⟩
  have HY5:=Lib.hid hl5
  have HL5:=Lib.hid (HL4.out.below hb5)
  have HX5:=Lib.hid (HX4.out.below hb5 HX4.out.lt)
  have HK5:=Lib.hid (HK4.out.below hb5 HK4.out.lt)
  have HB5:=Lib.hid (keepb HB4.out hb5)
  clear hl5 hb5 HOF
  go_upto_region 15 with fail
  obtain ⟨g9,hg9⟩:∃ g,w5.heap.size = g:=⟨_,rfl⟩
  obtain ⟨W6,hW6⟩:∃ W,w5.alloc (.cells #[.slice A5 n5 c5] 180) = W:=⟨_,rfl⟩
  have hb6:Below w5.heap.size w5 W6:=by rw [← hW6];exact below_new _ _
  have HZ6:Hid (Blk W6 g9 180 #[.slice A5 n5 c5]):=Lib.hid (by rw [← hW6,← hg9];exact Blk.new w5 _ _)
  have HY6:=Lib.hid (HY5.out.below hb6)
  have HL6:=Lib.hid (HL5.out.below hb6)
  have HX6:=Lib.hid (HX5.out.below hb6 HX5.out.lt)
  have HK6:=Lib.hid (HK5.out.below hb6 HK5.out.lt)
  have HB6:=Lib.hid (keepb HB5.out hb6)
  have HG9:Hid (g8 < g9):=Lib.hid (by rw [← hg9];exact HX5.out.lt)
  rw [hg9,hW6]
  clear hg9 hW6 hb6 HL3 HL4 HL5 HK0 HK1 HK2 HK3 HK4 HK5 HX4 HX5 HY5 HB0 HB1 HB2 HB3 HB4 HB5
  obtain ⟨c0,c1,c2,f0,f1,f2⟩:=HK6.out.three
  obtain ⟨xc,xf⟩:W6.cell? ⟨g8,0,none⟩ = some (.slice A3 n3 c3) ∧ W6.frozen? ⟨g8,0,none⟩ = false:=⟨HX6.out.cell 0,HX6.out.frozen 0⟩
  obtain ⟨yc,yf⟩:W6.cell? ⟨g9,0,none⟩ = some (.slice A5 n5 c5) ∧ W6.frozen? ⟨g9,0,none⟩ = false:=⟨HZ6.out.cell 0,HZ6.out.frozen 0⟩
  obtain ⟨tb,htb⟩:∃ tb,decide ((0:Int) ≤ y) = tb:=⟨_,rfl⟩
  have HTB:=Lib.hid htb
  go_upto_if 47 with fail
  clear htb
  go_cut [48] from 48 to 57 (fun s48 wx=>∃ A n c A' n' c',Blk wx g8 180 #[.slice A n c] ∧ RatL wx A n c (numD (g',s,y)) ∧ Blk wx g9 180 #[.slice A' n' c'] ∧ RatL wx A' n' c' (m * denD (g',s,y)) ∧ Below w.heap.size w wx)
  case first =>
    by_cases hy:0 ≤ y
    · obtain ⟨e,he⟩:∃ e:Nat,y = e:=⟨y.toNat,by omega⟩
      obtain rfl:tb = true:=by rw [← HTB.out];exact decide_eq_true hy
      have HYE:=Lib.hid he
      have HEV:Hid (numD (g',s,y) = dval s * 10 ^ e ∧ m * denD (g',s,y) = m):=Lib.hid (by
        subst he
        unfold numD denD
        simp)
      have hxx:dval s * 10 ^ e < 10 ^ (s.length + e):=by rw [Nat.pow_add];exact Nat.mul_lt_mul_of_pos_right HDL.out (Nat.pow_pos (by decide))
      have HSC:=Lib.hid (rscaled_nat _ (dval s) e N W6 HL6.out.w HS0.out HN.out (ten_b4 hxx (by have:=HYT.out;have:=HN.out;omega)) (by have:=HYT.out;omega))
      subst he
      clear hxx hy
      go_wp2_with fail
      refine HSC.out.mono ?_
      rintro e' w7 ⟨A7,n7,c7,rfl,hl7,hb7⟩
      have HX7:=Lib.hid (HX6.out.below hb7 HX6.out.lt)
      have HZ7:=Lib.hid (HZ6.out.below hb7 HZ6.out.lt)
      have HY7:=Lib.hid (HY6.out.below hb7)
      have HL7:=Lib.hid hl7
      have HB7:=Lib.hid (keepb HB6.out hb7)
      have hf7:=HX7.out.frozen 0
      have hc7:=HX7.out.cell 0
      simp at hc7
      clear hl7 hb7 c0 c1 c2 f0 f1 f2 xc xf yc yf HSC
      go_wp2_with fail
      go_meet
      exact ⟨A7,n7,c7,A5,n5,c5,HX7.out.set1 0 _,by rw [HEV.out.1];exact HL7.out.set HX7.out (by decide) _,HZ7.out.far (p:=⟨g8,0,none⟩) (by have:=HG9.out;simp;omega) _,by rw [HEV.out.2];exact HY7.out.set HX7.out (by decide) _,HB7.out.setCell (p:=⟨g8,0,none⟩) (Nat.le_of_lt HG8.out) _⟩
    · obtain ⟨e,he⟩:∃ e:Nat,y = -(e:Int):=⟨(-y).toNat,by omega⟩
      obtain rfl:tb = false:=by rw [← HTB.out];exact decide_eq_false hy
      have HEV:Hid (numD (g',s,y) = dval s ∧ m * denD (g',s,y) = m * 10 ^ e):=Lib.hid (by
        subst he
        unfold numD denD
        simp)
      have hme:m * 10 ^ e < 10 ^ (17 + e):=by
        rw [Nat.pow_add]
        exact Nat.mul_lt_mul_of_pos_right (by have:=HMS.out;omega) (Nat.pow_pos (by decide))
      have hneg:-(-(e:Int)) = (e:Int):=by omega
      have hneg2:IntKind.i64.wrap (-(-(e:Int))) = (e:Int):=by rw [hneg];exact IntWalk.i64_in _ (by have:=HYT.out;omega)
      have heI:(e:Int) ≤ 1141:=by have:=HYT.out;omega
      have he1:(1:Int) ≤ (e:Int):=by omega
      have HSC:=Lib.hid (rscaled_nat _ m e N W6 HY6.out.w HM0.out HN.out (ten_b4 hme (by have:=HYT.out;have:=HN.out;omega)) (by have:=HYT.out;omega))
      have HYE:=Lib.hid he
      subst he
      clear hme hy
      go_wp2_with fail
      refine HSC.out.mono ?_
      rintro e' w7 ⟨A7,n7,c7,rfl,hl7,hb7⟩
      have HX7:=Lib.hid (HX6.out.below hb7 HX6.out.lt)
      have HZ7:=Lib.hid (HZ6.out.below hb7 HZ6.out.lt)
      have HY7:=Lib.hid hl7
      have HL7:=Lib.hid (HL6.out.below hb7)
      have HB7:=Lib.hid (keepb HB6.out hb7)
      have hf7:=HZ7.out.frozen 0
      have hc7:=HZ7.out.cell 0
      simp at hc7
      clear hl7 hb7 c0 c1 c2 f0 f1 f2 xc xf yc yf HSC
      go_wp2_with fail
      go_meet
      exact ⟨A3,n3,c3,A7,n7,c7,HX7.out.far (p:=⟨g9,0,none⟩) (by have:=HG9.out;simp;omega) _,by rw [HEV.out.1];exact HL7.out.set HZ7.out (by decide) _,HZ7.out.set1 0 _,by rw [HEV.out.2];exact HY7.out.set HZ7.out (by decide) _,HB7.out.setCell (p:=⟨g9,0,none⟩) (Nat.le_of_lt (Nat.lt_trans HG8.out HG9.out)) _⟩
  case rest =>
  clear c0 c1 c2 f0 f1 f2 xc xf yc yf HL6 HX6 HZ6 HY6 HK6 HB6
  obtain ⟨A,n,c,A',n',c',hx,hlx,hz,hly,hb⟩:=hcut
  have HX:=Lib.hid hx
  have HL:=Lib.hid hlx
  have HZ:=Lib.hid hz
  have HY:=Lib.hid hly
  have HB:=Lib.hid hb
  have HNB:Hid (numD (g',s,y) < B4 ^ N):=Lib.hid (by
    have h1:numD (g',s,y) < 10 ^ (s.length + y.toNat):=by
      unfold numD
      rw [Nat.pow_add]
      exact Nat.mul_lt_mul_of_pos_right HDL.out (Nat.pow_pos (by decide))
    exact ten_b4 h1 (by have:=HYT.out;have:=HS8.out;have:=HN.out;omega))
  have HDB:Hid (m * denD (g',s,y) < B4 ^ N):=Lib.hid (by
    have h1:m * denD (g',s,y) < 10 ^ (17 + (-y).toNat):=by
      unfold denD
      rw [Nat.pow_add]
      exact Nat.mul_lt_mul_of_pos_right (by have:=HMS.out;omega) (Nat.pow_pos (by decide))
    exact ten_b4 h1 (by have:=HYT.out;have:=HN.out;omega))
  clear hx hlx hz hly hb
  obtain ⟨X,hXX⟩:∃ X,numD (g',s,y) = X:=⟨_,rfl⟩
  obtain ⟨Y,hYY⟩:∃ Y,m * denD (g',s,y) = Y:=⟨_,rfl⟩
  rw [hXX] at HL HNB
  rw [hYY] at HY HDB
  have HXX:=Lib.hid hXX
  have HYY:=Lib.hid hYY
  clear hXX hYY
  rename World=>wx
  go_upto_region 18 with fail
  obtain ⟨xc,xf⟩:wx.cell? ⟨g8,0,none⟩ = some (.slice A n c) ∧ wx.frozen? ⟨g8,0,none⟩ = false:=⟨HX.out.cell 0,HX.out.frozen 0⟩
  obtain ⟨yc,yf⟩:wx.cell? ⟨g9,0,none⟩ = some (.slice A' n' c') ∧ wx.frozen? ⟨g9,0,none⟩ = false:=⟨HZ.out.cell 0,HZ.out.frozen 0⟩
  obtain ⟨tk,htk⟩:∃ tk,decide ((0:Int) ≤ k) = tk:=⟨_,rfl⟩
  have HTK:=Lib.hid htk
  go_upto_if 58 with fail
  clear htk
  go_cut [59] from 59 to 68 (fun s59 wy=>∃ A n c A' n' c',Blk wy g8 180 #[.slice A n c] ∧ RatL wy A n c (X * 2 ^ (-k).toNat) ∧ Blk wy g9 180 #[.slice A' n' c'] ∧ RatL wy A' n' c' (Y * 2 ^ k.toNat) ∧ Below w.heap.size w wy)
  case first =>
    by_cases hk:0 ≤ k
    · obtain ⟨e,he⟩:∃ e:Nat,k = e:=⟨k.toNat,by omega⟩
      obtain rfl:tk = true:=by rw [← HTK.out];exact decide_eq_true hk
      have HEV:Hid (X * 2 ^ (-k).toNat = X ∧ Y * 2 ^ k.toNat = Y * 2 ^ e):=Lib.hid (by subst he;simp)
      have HTW:Hid (∀ W,Calls Tryz.prog 94 #[.int .i64 (e:Int)] W (RatV (2 ^ e) W)):=Lib.hid (fun W=>rtwo_nat e W (by omega))
      have HPR:Hid (∀ W u,Below wx.heap.size wx W → RatW W u (2 ^ e) → Calls Tryz.prog 93 #[.agg #[.slice A' n' c'],u] W (RatV (Y * 2 ^ e) W)):=Lib.hid (fun W u hb hu=>rproduct_v HN.out _ u _ _ W (HY.out.below hb).w hu HDB.out (two_lt (N:=N) (by have:=HN.out;omega) (by have:=HN.out;omega) (Nat.le_refl _)))
      have HZL:=Lib.hid HZ.out.lt
      subst he
      clear hk
      go_upto_region 19 with fail
      go_region_with (first
        | (go_at_call 94;refine (HTW.out _).mono ?_;rintro e wa ⟨A5,n5,c5,rfl,hl5,hb5⟩;have HLA:=Lib.hid hl5;have HWA:=Lib.hid (keepb (below_drewN (Below.refl _ _) 1) hb5);have hca:=keepc HWA.out HZL.out yc;clear hl5 hb5)
        | (go_at_call 93;refine (HPR.out _ _ HWA.out HLA.out.w).mono ?_;rintro e wb ⟨A6,n6,c6,rfl,hl6,hb6⟩;have HLB:=Lib.hid hl6;have HWB:=Lib.hid (keepb HWA.out hb6);have HBB:=Lib.hid (HZ.out.below HWB.out HZL.out);have hcb:=HBB.out.cell 0;have hfb:=HBB.out.frozen 0;simp at hcb;clear hl6 hb6))
      all_goals
        go_wp2_with fail
        go_meet
        exact ⟨A,n,c,A6,n6,c6,(HX.out.below HWB.out HX.out.lt).far (p:=⟨g9,0,none⟩) (by have:=HG9.out;simp;omega) _,by rw [HEV.out.1];exact (HL.out.below HWB.out).set HBB.out (by decide) _,HBB.out.set1 0 _,by rw [HEV.out.2];exact HLB.out.set HBB.out (by decide) _,(keepb HB.out HWB.out).setCell (p:=⟨g9,0,none⟩) (Nat.le_of_lt (Nat.lt_trans HG8.out HG9.out)) _⟩
    · obtain ⟨e,he⟩:∃ e:Nat,k = -(e:Int):=⟨(-k).toNat,by omega⟩
      obtain rfl:tk = false:=by rw [← HTK.out];exact decide_eq_false hk
      have HEV:Hid (X * 2 ^ (-k).toNat = X * 2 ^ e ∧ Y * 2 ^ k.toNat = Y):=Lib.hid (by subst he;simp)
      have HTW:Hid (∀ W,Calls Tryz.prog 94 #[.int .i64 (e:Int)] W (RatV (2 ^ e) W)):=Lib.hid (fun W=>rtwo_nat e W (by omega))
      have HPR:Hid (∀ W u,Below wx.heap.size wx W → RatW W u (2 ^ e) → Calls Tryz.prog 93 #[.agg #[.slice A n c],u] W (RatV (X * 2 ^ e) W)):=Lib.hid (fun W u hb hu=>rproduct_v HN.out _ u _ _ W (HL.out.below hb).w hu HNB.out (two_lt (N:=N) (by have:=HN.out;omega) (by have:=HN.out;omega) (Nat.le_refl _)))
      have HZL:=Lib.hid HX.out.lt
      have hneg:-(-(e:Int)) = (e:Int):=by omega
      have hneg2:IntKind.i64.wrap (-(-(e:Int))) = (e:Int):=by rw [hneg];exact IntWalk.i64_in _ (by omega)
      have hneg3:IntKind.i64.wrap (e:Int) = (e:Int):=IntWalk.i64_in _ (by omega)
      subst he
      clear hk
      go_upto_region 20 with fail
      go_region_with (first
        | (go_at_call 94;refine (HTW.out _).mono ?_;rintro e wa ⟨A5,n5,c5,rfl,hl5,hb5⟩;have HLA:=Lib.hid hl5;have HWA:=Lib.hid (keepb (below_drewN (Below.refl _ _) 1) hb5);have hca:=keepc HWA.out HZL.out xc;clear hl5 hb5)
        | (go_at_call 93;refine (HPR.out _ _ HWA.out HLA.out.w).mono ?_;rintro e wb ⟨A6,n6,c6,rfl,hl6,hb6⟩;have HLB:=Lib.hid hl6;have HWB:=Lib.hid (keepb HWA.out hb6);have HBB:=Lib.hid (HX.out.below HWB.out HZL.out);have hcb:=HBB.out.cell 0;have hfb:=HBB.out.frozen 0;simp at hcb;clear hl6 hb6))
      all_goals
        go_wp2_with fail
        go_meet
        exact ⟨A6,n6,c6,A',n',c',HBB.out.set1 0 _,by rw [HEV.out.1];exact HLB.out.set HBB.out (by decide) _,(HZ.out.below HWB.out HZ.out.lt).far (p:=⟨g8,0,none⟩) (by have:=HG9.out;simp;omega) _,by rw [HEV.out.2];exact (HY.out.below HWB.out).set HBB.out (by decide) _,(keepb HB.out HWB.out).setCell (p:=⟨g8,0,none⟩) (Nat.le_of_lt HG8.out) _⟩
  case rest =>
  clear xc xf yc yf HX HL HZ HY HB
  obtain ⟨A,n,c,A',n',c',hx,hlx,hz,hly,hb⟩:=hcut
  rename World=>wy
  have HB:=Lib.hid hb
  have HAG:=Lib.hid (ragainst_v HM.out _ _ _ _ wy hlx.w hly.w (by
    have h1:X * 2 ^ (-k).toNat < B4 ^ N * B4 ^ N:=Nat.mul_lt_mul'' HNB.out (two_lt (N:=N) (by have:=HN.out;omega) (by have:=HN.out;omega) (Nat.le_refl _))
    rw [← Nat.pow_add] at h1
    exact Nat.lt_of_lt_of_le h1 (Nat.pow_le_pow_right (by decide) (by have:=HN.out;have:=HM.out;omega))) (by
    have h1:Y * 2 ^ k.toNat < B4 ^ N * B4 ^ N:=Nat.mul_lt_mul'' HDB.out (two_lt (N:=N) (by have:=HN.out;omega) (by have:=HN.out;omega) (Nat.le_refl _))
    rw [← Nat.pow_add] at h1
    exact Nat.lt_of_lt_of_le h1 (Nat.pow_le_pow_right (by decide) (by have:=HN.out;have:=HM.out;omega))))
  obtain ⟨xc,xf⟩:wy.cell? ⟨g8,0,none⟩ = some (.slice A n c) ∧ wy.frozen? ⟨g8,0,none⟩ = false:=⟨hx.cell 0,hx.frozen 0⟩
  obtain ⟨yc,yf⟩:wy.cell? ⟨g9,0,none⟩ = some (.slice A' n' c') ∧ wy.frozen? ⟨g9,0,none⟩ = false:=⟨hz.cell 0,hz.frozen 0⟩
  clear hx hlx hz hly hb
  go_wp2_with fail
  refine HAG.out.mono ?_
  rintro e wz ⟨rfl,hbz⟩
  have HBZ:=Lib.hid (keepb HB.out hbz)
  clear hbz
  go_wp2_with fail
  go_ret
  exact ⟨by rw [HXX.out,HYY.out] <;> rfl,HBZ.out⟩
def AgvP (d:Dm) (m:Nat) (k:Int) (w:World) (e:Ending) (w':World):Prop:=e = .returned (.int .i64 (agV d m k)) ∧ Below w.heap.size w w'
set_option maxRecDepth 100000 in
set_option maxHeartbeats 1000000 in
theorem ragv_any (d:Dm) (m:Nat) (k:Int) (w:World) (hd:Bare d) (hl:d.2.1.length ≤ 140737488353000) (hx1:-2000000000000000 ≤ d.2.2) (hx2:d.2.2 ≤ 2000000000000000) (hm:m < 2 ^ 54) (hk1:-1075 ≤ k) (hk2:k ≤ 971) :
    Calls Tryz.prog 73 #[decV d,.int .u64 m,.int .i64 k] w (AgvP d m k w):=by
  by_cases h0:d.2.1 = []
  · have e:=hd.2.1 h0
    subst e
    have hmI:(m:Int) < 18014398509481984:=by omega
    unfold decV sv
    have HB0:=Lib.hid ((Below.refl _ w).alloc (Nat.le_refl _) (.cells #[.bool false,.string ⟨#[]⟩,.int .i64 0] 134))
    by_cases hm0:m = 0
    · have HV:=Lib.hid (show agV (false,[],0) m k = 0 by unfold agV;rw [if_pos rfl,if_pos hm0])
      have t1:decide ((0:Int) < (m:Int)) = false:=decide_eq_false (by omega)
      have t1':decide (0 < m) = false:=decide_eq_false (by omega)
      clear h0 hd hl hx1 hx2 hm hm0
      go_enter Tryz.func73,Tryz.ntmps73
      go_wp2_with fail
      go_ret
      exact ⟨by rw [HV.out] <;> rfl,HB0.out⟩
    · have HV:=Lib.hid (show agV (false,[],0) m k = -1 by unfold agV;rw [if_pos rfl,if_neg hm0])
      have t1:decide ((0:Int) < (m:Int)) = true:=decide_eq_true (by omega)
      have t1':decide (0 < m) = true:=decide_eq_true (by omega)
      clear h0 hd hl hx1 hx2 hm hm0
      go_enter Tryz.func73,Tryz.ntmps73
      go_wp2_with fail
      go_ret
      exact ⟨by rw [HV.out] <;> rfl,HB0.out⟩
  · have hlead:=hd.lead h0
    have hsl:=shortD_lead hlead
    have hvs:agV d m k = cmpI (numD (shortD d) * 2 ^ (-k).toNat) (m * denD (shortD d) * 2 ^ k.toNat):=by unfold agV;rw [if_neg h0]
    have htop:=shortD_top d
    have hD:=denD_pos (shortD d)
    have hpos:0 < d.2.1.length:=List.length_pos_iff.2 h0
    by_cases hmz:m = 0
    · have hval:agV d m k = 1:=by
        rw [hvs,hmz]
        refine cmpI_gt ?_
        rw [Nat.zero_mul,Nat.zero_mul]
        exact Nat.mul_pos (mag_pos hsl) (Nat.pow_pos (by decide))
      have HV:=Lib.hid hval
      obtain ⟨g,l,x⟩:=d
      simp only at hl hx1 hx2 hpos
      subst hmz
      have t1:(((l.length:Nat):Int) == 0) = false:=by rw [beq_eq_false_iff_ne];omega
      have t1':(l.length == 0) = false:=by rw [beq_eq_false_iff_ne];omega
      have t2:decide ((0:Int) < (l.length:Int)) = true:=decide_eq_true (by omega)
      have t2':decide (0 < l.length) = true:=decide_eq_true hpos
      have e0:((0:Nat):Int) = 0:=rfl
      have e1:IntKind.i64.wrap ((l.length:Int) + x) = (l.length:Int) + x:=IntWalk.i64_in _ (by omega)
      have HB0:=Lib.hid ((Below.refl _ w).alloc (Nat.le_refl _) (.cells #[.bool g,.string ⟨l.toArray⟩,.int .i64 x] 134))
      unfold decV sv
      rw [e0]
      clear h0 hd hlead hsl hvs htop hD hval e0
      go_enter Tryz.func73,Tryz.ntmps73
      go_wp2_with fail
      go_ret
      exact ⟨by rw [HV.out] <;> rfl,HB0.out⟩
    by_cases ht1:320 < topD d
    · have hval:agV d m k = 1:=by
        obtain ⟨K,hK⟩:∃ K,K = 320:=⟨_,rfl⟩
        have h1:=mag_ge hsl K (by rw [htop];omega)
        rw [hvs]
        exact cmpI_gt (great_mag hK hm hk1 hk2 h1 hD)
      have HV:=Lib.hid hval
      obtain ⟨g,l,x⟩:=d
      have ht:320 < (l.length:Int) + x:=ht1
      simp only at hl hx1 hx2 hpos
      have t1:(((l.length:Nat):Int) == 0) = false:=by rw [beq_eq_false_iff_ne];omega
      have t1':(l.length == 0) = false:=by rw [beq_eq_false_iff_ne];omega
      have t2:((m:Int) == 0) = false:=by rw [beq_eq_false_iff_ne];omega
      have t2':(m == 0) = false:=by rw [beq_eq_false_iff_ne];omega
      have t3:decide ((320:Int) < (l.length:Int) + x) = true:=decide_eq_true (by omega)
      have e1:IntKind.i64.wrap ((l.length:Int) + x) = (l.length:Int) + x:=IntWalk.i64_in _ (by omega)
      have HB0:=Lib.hid ((Below.refl _ w).alloc (Nat.le_refl _) (.cells #[.bool g,.string ⟨l.toArray⟩,.int .i64 x] 134))
      unfold decV sv
      clear h0 hd hlead hsl hvs htop hD hval hm ht1
      go_enter Tryz.func73,Tryz.ntmps73
      go_wp2_with fail
      go_ret
      exact ⟨by rw [HV.out] <;> rfl,HB0.out⟩
    by_cases ht2:topD d < -340
    · have hval:agV d m k = -1:=by
        obtain ⟨K,hK⟩:∃ K,K = 340:=⟨_,rfl⟩
        have h1:=mag_small hsl K (by rw [htop];omega)
        rw [hvs]
        exact cmpI_lt (small_mag hK (by omega) hk1 h1)
      have HV:=Lib.hid hval
      obtain ⟨g,l,x⟩:=d
      have ht:(l.length:Int) + x < -340:=ht2
      simp only at hl hx1 hx2 hpos
      have t1:(((l.length:Nat):Int) == 0) = false:=by rw [beq_eq_false_iff_ne];omega
      have t1':(l.length == 0) = false:=by rw [beq_eq_false_iff_ne];omega
      have t2:((m:Int) == 0) = false:=by rw [beq_eq_false_iff_ne];omega
      have t2':(m == 0) = false:=by rw [beq_eq_false_iff_ne];omega
      have t3:decide ((320:Int) < (l.length:Int) + x) = false:=decide_eq_false (by omega)
      have t4:decide ((l.length:Int) + x < -340) = true:=decide_eq_true ht
      have e1:IntKind.i64.wrap ((l.length:Int) + x) = (l.length:Int) + x:=IntWalk.i64_in _ (by omega)
      have HB0:=Lib.hid ((Below.refl _ w).alloc (Nat.le_refl _) (.cells #[.bool g,.string ⟨l.toArray⟩,.int .i64 x] 134))
      unfold decV sv
      clear h0 hd hlead hsl hvs htop hD hval hm ht1 ht2
      go_enter Tryz.func73,Tryz.ntmps73
      go_wp2_with fail
      go_ret
      exact ⟨by rw [HV.out] <;> rfl,HB0.out⟩
    obtain ⟨g,l,x⟩:=d
    obtain ⟨sd,hsd⟩:∃ sd,shortD (g,l,x) = sd:=⟨_,rfl⟩
    have hsl8:=shortD_len (g,l,x)
    rw [hsd] at htop hsl hvs hsl8
    obtain ⟨g',s,y⟩:=sd
    have h:=ragv_main g l x g' s y m k w hsd hl hx1 hx2 hpos (by unfold topD at ht1;simp only at ht1;omega) (by unfold topD at ht2;simp only at ht2;omega) hsl8 hsl.1 (by have:=hsl.ge;exact Nat.lt_of_lt_of_le (Nat.pow_pos (by decide)) this) (by unfold topD at htop;simp only at htop;omega) (by omega) hm hk1 hk2
    rw [← hvs] at h
    exact h
end Go.Proofs.YtgmholdkdppbmaaGreatDoor
namespace Go.Proofs.YtgmholdkdppbmaaGreatDoor
open Go.RowKit
structure Okd (d:Dm):Prop where
  bare:Bare d
  len:d.2.1.length ≤ 140737488353000
  lo:-2000000000000000 ≤ d.2.2
  hi:d.2.2 ≤ 2000000000000000
theorem ragF_any (d:Dm) (b:Nat) (w:World) (hd:Okd d) (hb:b ≤ most) :
    Calls Tryz.prog 73 #[decV d,.int .u64 (fltM b:Nat),.int .i64 (fltK b)] w fun e w'=>e = .returned (.int .i64 (agF d b)) ∧ Below w.heap.size w w':=by
  obtain ⟨h1,h2,h3⟩:=flt_bounds hb
  have h:=ragv_any d (fltM b) (fltK b) w hd.bare hd.len hd.lo hd.hi (by omega) (by omega) (by omega)
  unfold AgvP at h
  rw [agV_flt] at h
  exact h
theorem ragH_any (d:Dm) (b:Nat) (w:World) (hd:Okd d) (hb:b ≤ most) :
    Calls Tryz.prog 73 #[decV d,.int .u64 ((2 * fltM b + 1:Nat):Int),.int .i64 (fltK b - 1)] w fun e w'=>e = .returned (.int .i64 (agH d b)) ∧ Below w.heap.size w w':=by
  obtain ⟨h1,h2,h3⟩:=flt_bounds hb
  have h:=ragv_any d (2 * fltM b + 1) (fltK b - 1) w hd.bare hd.len hd.lo hd.hi (by omega) (by omega) (by omega)
  unfold AgvP at h
  rw [agV_half] at h
  exact h
theorem rfloat_b (b:Nat) (w:World) (hb:b ≤ most) :
    Calls Tryz.prog 72 #[.int .u64 b] w fun e w'=>e = .returned (.tuple #[.int .u64 (fltM b:Nat),.int .i64 (fltK b)]) ∧ w = w':=rfloat_any b w (by unfold most at hb;omega)
set_option maxRecDepth 100000 in
set_option maxHeartbeats 1000000 in
theorem rfloor_any (d:Dm) (w:World) (hd:Okd d) :
    Calls Tryz.prog 71 #[decV d] w fun e w'=>e = .returned (.int .u64 ((floorP d).1:Nat)) ∧ Below w.heap.size w w':=by
  have HAG:Hid (∀ W b,b ≤ most → Calls Tryz.prog 73 #[decV d,.int .u64 (fltM b:Nat),.int .i64 (fltK b)] W fun e w'=>e = .returned (.int .i64 (agF d b)) ∧ Below W.heap.size W w'):=Lib.hid (fun W b hb=>ragF_any d b W hd hb)
  have HGE:Hid (∀ b,b ≤ most → (0 ≤ agF d b ↔ b ≤ (floorP d).1)):=Lib.hid (fun b hb=>agF_ge hd.bare hb)
  have HFM:=Lib.hid (floorP_most d)
  obtain ⟨F,hF⟩:∃ F,(floorP d).1 = F:=⟨_,rfl⟩
  rw [hF] at HGE HFM ⊢
  clear hF hd
  obtain ⟨g,l,x⟩:=d
  unfold decV sv at *
  have HK0:=Lib.hid (Blk.new w 134 #[.bool g,.string ⟨l.toArray⟩,.int .i64 x])
  have HB0:=Lib.hid ((Below.refl _ w).alloc (Nat.le_refl _) (.cells #[.bool g,.string ⟨l.toArray⟩,.int .i64 x] 134))
  go_enter Tryz.func71,Tryz.ntmps71
  go_wp2_with fail
  go_loopw [3,4] (fun s3 s4 wr=>∃ lo hi:Nat,s3 = .int .u64 lo ∧ s4 = .int .u64 hi ∧ lo ≤ F ∧ F ≤ hi ∧ hi ≤ most ∧ Blk wr w.heap.size 134 #[.bool g,.string ⟨l.toArray⟩,.int .i64 x] ∧ Below w.heap.size w wr) (fun s3 s4 _=>(intOf s4).toNat - (intOf s3).toNat)
  case atStart=>exact ⟨0,most,rfl,rfl,Nat.zero_le _,HFM.out,Nat.le_refl _,HK0.out,HB0.out⟩
  case round =>
    obtain ⟨lo,hi,rfl,rfl,h1,h2,h3,hk,hb⟩:=hrel
    have H1:=Lib.hid h1
    have H2:=Lib.hid h2
    have H3:=Lib.hid h3
    have HK:=Lib.hid hk
    have HB:=Lib.hid hb
    obtain ⟨c0,c1,c2,f0,f1,f2⟩:=hk.three
    have hhi:(hi:Int) ≤ 9218868437227405311:=by unfold most at h3;omega
    clear hk hb
    by_cases hlt:lo < hi
    · obtain ⟨dl,hdl⟩:∃ dl,hi = lo + (dl + 1):=⟨hi - lo - 1,by omega⟩
      obtain ⟨hf,hhf⟩:∃ hf,(dl + 2) / 2 = hf:=⟨_,rfl⟩
      obtain ⟨mid,hmid⟩:∃ mid,lo + hf = mid:=⟨_,rfl⟩
      have t1:decide ((lo:Int) < (hi:Int)) = true:=decide_eq_true (by omega)
      have t1':decide (lo < hi) = true:=decide_eq_true hlt
      have HMM:Hid (lo < mid ∧ mid ≤ hi):=Lib.hid (by omega)
      have hmI:(mid:Int) ≤ 9218868437227405311:=by omega
      have hm1:(1:Int) ≤ (mid:Int):=by omega
      have k0:(hi:Int) - (lo:Int) = ((dl + 1:Nat):Int):=by omega
      have k0':IntKind.u64.wrap ((hi:Int) - (lo:Int)) = ((dl + 1:Nat):Int):=by rw [k0];exact wrapN _ (by unfold W64;omega)
      have k1:((dl + 1:Nat):Int) + 1 = ((dl + 2:Nat):Int):=by omega
      have k1':IntKind.u64.wrap (((dl + 1:Nat):Int) + 1) = ((dl + 2:Nat):Int):=by rw [k1];exact wrapN _ (by unfold W64;omega)
      have k2:((dl + 2:Nat):Int) / 2 = (hf:Int):=by omega
      have k2':Int.tdiv ((dl + 2:Nat):Int) 2 = (hf:Int):=by rw [Int.tdiv_eq_ediv_of_nonneg (by omega)];omega
      have k3:(lo:Int) + (hf:Int) = (mid:Int):=by omega
      have k3':IntKind.u64.wrap ((lo:Int) + (hf:Int)) = (mid:Int):=by rw [k3];exact wrapN _ (by unfold W64;omega)
      have d1:(0:Int) ≤ ((dl + 2:Nat):Int):=by omega
      have HFL:=Lib.hid (rfloat_b mid wr (by unfold most;omega))
      have HAM:=Lib.hid (HAG.out wr mid (by unfold most;omega))
      have HGM:=Lib.hid (HGE.out mid (by unfold most;omega))
      clear hlt hdl hhf hmid h1 h2 h3
      generalize dl + 1 = d1' at *
      generalize dl + 2 = d2' at *
      generalize fltM mid = m at *
      generalize fltK mid = k at *
      generalize agF (g,l,x) mid = c at *
      go_wp2_with fail
      refine HFL.out.mono ?_
      rintro e w1 ⟨rfl,rfl⟩
      go_wp2_with fail
      refine HAM.out.mono ?_
      rintro e w2 ⟨rfl,hb2⟩
      have HK2:=Lib.hid (HK.out.below hb2 HK.out.lt)
      have HB2:=Lib.hid (keepb HB.out hb2)
      clear hb2 c0 c1 c2 f0 f1 f2
      by_cases hc:0 ≤ c
      · have t2:decide (0 ≤ c) = true:=decide_eq_true hc
        have HL:=Lib.hid (HGM.out.1 hc)
        clear hc
        go_wp2_with fail
        go_roundw
        case rel=>exact ⟨mid,hi,rfl,rfl,HL.out,H2.out,H3.out,HK2.out,HB2.out⟩
        case measure=>have:=HMM.out;simp [intOf];omega
      · have t2:decide (0 ≤ c) = false:=decide_eq_false hc
        have HL:Hid (F < mid):=Lib.hid (by have h:=HGM.out;rcases Nat.lt_or_ge F mid with h1 | h1;exact h1;exact absurd (h.2 h1) hc)
        clear hc
        go_wp2_with fail
        go_roundw
        case rel=>exact ⟨lo,mid - 1,rfl,by have:=HL.out;show Value.int _ _ = Value.int _ _;congr 1;omega,H1.out,by have:=HL.out;omega,by have:=HMM.out;have:=H3.out;omega,HK2.out,HB2.out⟩
        case measure=>have:=HMM.out;simp [intOf];omega
    · obtain rfl:lo = F:=by omega
      obtain rfl:lo = hi:=by omega
      have t1:decide ((lo:Int) < (lo:Int)) = false:=by simp
      have t1':decide (lo < lo) = false:=by simp
      clear hlt h1 h2 h3
      go_wp2_with fail
      go_ret
      exact ⟨rfl,HB.out⟩
end Go.Proofs.YtgmholdkdppbmaaGreatDoor
namespace Go.Proofs.YtgmholdkdppbmaaGreatDoor
open Go.RowKit
def roundR (o:Option Nat):Value:=match o with
  | some x=>.tuple #[.int .u64 (x:Int),.bool true]
  | none=>.tuple #[.int .u64 0,.bool false]
theorem endP_none {g:Bool} {b:Nat} (h:most < b):endP g b = none:=if_pos h
theorem endP_some {g:Bool} {b:Nat} (h:¬ most < b):endP g b = some (if g && decide (0 < b) then b + 9223372036854775808 else b):=if_neg h
set_option maxRecDepth 100000 in
set_option maxHeartbeats 4000000 in
theorem rround_any (d:Dm) (way:Int) (w:World) (hd:Okd d) :
    Calls Tryz.prog 59 #[decV d,.int .i64 way] w fun e w'=>e = .returned (roundR (roundP d way)) ∧ Below w.heap.size w w':=by
  have HF:=Lib.hid (fun W=>rfloor_any d W hd)
  have HFM:Hid ((floorP d).1 ≤ most):=Lib.hid (floorP_most d)
  have HFL:=Lib.hid (fun W=>rfloat_b (floorP d).1 W HFM.out)
  have HAG:=Lib.hid (fun W=>ragF_any d (floorP d).1 W hd HFM.out)
  have HAH:=Lib.hid (fun W=>ragH_any d (floorP d).1 W hd HFM.out)
  have HRR:=Lib.hid (roundP_ref hd.bare way)
  have hfb:=flt_bounds HFM.out
  obtain ⟨F,hF⟩:∃ F,(floorP d).1 = F:=⟨_,rfl⟩
  rw [hF] at HF HFM HFL HAG HAH HRR hfb
  obtain ⟨R,hR⟩:∃ R,roundP d way = R:=⟨_,rfl⟩
  rw [hR] at HRR ⊢
  obtain ⟨c,hc⟩:∃ c,agF d F = c:=⟨_,rfl⟩
  obtain ⟨h,hh⟩:∃ h,agH d F = h:=⟨_,rfl⟩
  rw [hc] at HAG HRR
  rw [hh] at HAH HRR
  clear hF hR hc hh hd
  obtain ⟨g,l,x⟩:=d
  obtain ⟨ex,hex⟩:∃ ex,(c == 0) = ex:=⟨_,rfl⟩
  have hex':decide (c = 0) = ex:=by rw [← hex];rfl
  rw [hex'] at HRR
  have HR:Hid (R = endP g (if upR g F ex h way then F + 1 else F)):=Lib.hid HRR.out
  clear hex' HRR
  unfold decV sv at *
  have hFI:(F:Int) ≤ 9218868437227405311:=by have:=HFM.out;unfold most at this;omega
  have hm2:((fltM F:Nat):Int) < 9007199254740992:=by omega
  have k1:(2:Int) * ((fltM F:Nat):Int) = ((2 * fltM F:Nat):Int):=by omega
  have k1':IntKind.u64.wrap ((2:Int) * ((fltM F:Nat):Int)) = ((2 * fltM F:Nat):Int):=by rw [k1];exact wrapN _ (by unfold W64;omega)
  have k2:((2 * fltM F:Nat):Int) + 1 = ((2 * fltM F + 1:Nat):Int):=by omega
  have k2':IntKind.u64.wrap (((2 * fltM F:Nat):Int) + 1) = ((2 * fltM F + 1:Nat):Int):=by rw [k2];exact wrapN _ (by unfold W64;omega)
  have k3':IntKind.i64.wrap (fltK F - 1) = fltK F - 1:=IntWalk.i64_in _ (by omega)
  have hkl:-1074 ≤ fltK F:=hfb.2.1
  have hkh:fltK F ≤ 971:=hfb.2.2
  clear hfb
  generalize 2 * fltM F = m2 at *
  generalize m2 + 1 = m3 at *
  generalize fltM F = m at *
  generalize fltK F = k at *
  have HK0:=Lib.hid (Blk.new w 134 #[.bool g,.string ⟨l.toArray⟩,.int .i64 x])
  have HB0:=Lib.hid ((Below.refl _ w).alloc (Nat.le_refl _) (.cells #[.bool g,.string ⟨l.toArray⟩,.int .i64 x] 134))
  obtain ⟨W0,hW0⟩:∃ W0,w.alloc (.cells #[.bool g,.string ⟨l.toArray⟩,.int .i64 x] 134) = W0:=⟨_,rfl⟩
  rw [hW0] at HK0 HB0
  obtain ⟨c0,c1,c2,f0,f1,f2⟩:=HK0.out.three
  go_enter Tryz.func59,Tryz.ntmps59
  go_wp2_with fail
  refine (HF.out _).mono ?_
  rintro e w1 ⟨rfl,hb1⟩
  have HK1:=Lib.hid (HK0.out.below hb1 HK0.out.lt)
  have HB1:=Lib.hid (keepb HB0.out hb1)
  clear c0 c1 c2 f0 f1 f2 hb1 hW0
  go_wp2_with fail
  refine (HFL.out _).mono ?_
  rintro e w2 ⟨rfl,rfl⟩
  obtain ⟨c0,c1,c2,f0,f1,f2⟩:=HK1.out.three
  go_wp2_with fail
  refine (HAG.out _).mono ?_
  rintro e w2 ⟨rfl,hb2⟩
  have HK2:=Lib.hid (HK1.out.below hb2 HK1.out.lt)
  have HB2:=Lib.hid (keepb HB1.out hb2)
  clear c0 c1 c2 f0 f1 f2 hb2
  obtain ⟨c0,c1,c2,f0,f1,f2⟩:=HK2.out.three
  go_wp2_with fail
  refine (HAH.out _).mono ?_
  rintro e w3 ⟨rfl,hb3⟩
  have HK3:=Lib.hid (HK2.out.below hb3 HK2.out.lt)
  have HB3:=Lib.hid (keepb HB2.out hb3)
  clear c0 c1 c2 f0 f1 f2 hb3 k1 k1' k2 k2' k3' HF HFL HAG HAH hm2 hkl hkh HK0 HK1 HK2 HB0 HB1 HB2
  obtain ⟨t,ht⟩:∃ t,(way == 1) = t:=⟨_,rfl⟩
  have HT:=Lib.hid ht
  go_upto_if 32 with fail
  obtain ⟨u1,hu1⟩:∃ u1,(t && (decide (0 < h) || (h == 0 && F % 2 == 1))) = u1:=⟨_,rfl⟩
  have HU1:=Lib.hid hu1
  clear hu1 ht
  go_cut [11] from 11 to 44 (fun s11 wx=>s11 = .bool u1 ∧ w3 = wx)
  case first =>
    cases t with
    | false =>
      have HV:=Lib.hid (show u1 = false from HU1.out.symm)
      go_wp2_with fail
      go_meet
      exact ⟨by rw [HV.out],rfl⟩
    | true =>
      have HV:=Lib.hid (show u1 = (decide (0 < h) || (h == 0 && F % 2 == 1)) from HU1.out.symm)
      have em:(F:Int) % 2 = ((F % 2:Nat):Int):=by omega
      have em':Int.tmod (F:Int) 2 = ((F % 2:Nat):Int):=by rw [Int.tmod_eq_emod_of_nonneg (by omega)];omega
      rcases Int.lt_trichotomy h 0 with h1 | h1 | h1
      · have q1:decide (0 < h) = false:=decide_eq_false (by omega)
        have q2:(h == 0) = false:=by rw [beq_eq_false_iff_ne];omega
        have HV2:=Lib.hid (show u1 = false by rw [HV.out,q1,q2];rfl)
        clear h1 em em'
        go_wp2_with fail
        go_meet
        exact ⟨by rw [HV2.out],rfl⟩
      · subst h1
        rcases Nat.mod_two_eq_zero_or_one F with h2 | h2
        · have HV2:=Lib.hid (show u1 = false by rw [HV.out,h2];rfl)
          rw [h2] at em em'
          have e0:((0:Nat):Int) = 0:=rfl
          rw [e0] at em em'
          clear h2 e0
          go_wp2_with fail
          go_meet
          exact ⟨by rw [HV2.out],rfl⟩
        · have HV2:=Lib.hid (show u1 = true by rw [HV.out,h2];rfl)
          rw [h2] at em em'
          have e0:((1:Nat):Int) = 1:=rfl
          rw [e0] at em em'
          clear h2 e0
          go_wp2_with fail
          go_meet
          exact ⟨by rw [HV2.out],rfl⟩
      · have q1:decide (0 < h) = true:=decide_eq_true (by omega)
        have HV2:=Lib.hid (show u1 = true by rw [HV.out,q1];rfl)
        clear h1 em em'
        go_wp2_with fail
        go_meet
        exact ⟨by rw [HV2.out],rfl⟩
  case rest =>
  obtain ⟨rfl,hwx⟩:=hcut
  subst hwx
  obtain ⟨tt,htt⟩:∃ t,(way == 2) = t:=⟨_,rfl⟩
  have HTT:=Lib.hid htt
  go_upto_if 45 with fail
  obtain ⟨u2,hu2⟩:∃ u2,(if tt then decide (0 ≤ h) else u1) = u2:=⟨_,rfl⟩
  have HU2:=Lib.hid hu2
  clear hu2 htt
  go_cut [11] from 11 to 48 (fun s11 wx=>s11 = .bool u2 ∧ w3 = wx)
  case first =>
    cases tt with
    | false =>
      have HV:=Lib.hid (show u2 = u1 from HU2.out.symm)
      go_wp2_with fail
      go_meet
      exact ⟨by rw [HV.out],rfl⟩
    | true =>
      have HV:=Lib.hid (show u2 = decide (0 ≤ h) from HU2.out.symm)
      go_wp2_with fail
      go_meet
      exact ⟨by rw [HV.out],rfl⟩
  case rest =>
  obtain ⟨rfl,hwx⟩:=hcut
  subst hwx
  obtain ⟨t4,ht4⟩:∃ t,(way == 4) = t:=⟨_,rfl⟩
  have HT4:=Lib.hid ht4
  go_upto_if 49 with fail
  obtain ⟨u3,hu3⟩:∃ u3,(if t4 then (g && !ex) else u2) = u3:=⟨_,rfl⟩
  have HU3:=Lib.hid hu3
  clear hu3 ht4
  obtain ⟨c0,c1,c2,f0,f1,f2⟩:=HK3.out.three
  go_cut [11] from 11 to 56 (fun s11 wx=>s11 = .bool u3 ∧ w3 = wx)
  case first =>
    cases t4 with
    | false =>
      have HV:=Lib.hid (show u3 = u2 from HU3.out.symm)
      go_wp2_with fail
      go_meet
      exact ⟨by rw [HV.out],rfl⟩
    | true =>
      have HV:=Lib.hid (show u3 = (g && !ex) from HU3.out.symm)
      cases g with
      | false =>
        go_wp2_with fail
        go_meet
        exact ⟨by rw [HV.out] <;> rfl,rfl⟩
      | true =>
        cases ex with
        | false =>
          go_wp2_with fail
          go_meet
          exact ⟨by rw [HV.out] <;> rfl,rfl⟩
        | true =>
          go_wp2_with fail
          go_meet
          exact ⟨by rw [HV.out] <;> rfl,rfl⟩
  case rest =>
  obtain ⟨rfl,hwx⟩:=hcut
  subst hwx
  obtain ⟨t5,ht5⟩:∃ t,(way == 5) = t:=⟨_,rfl⟩
  have HT5:=Lib.hid ht5
  go_upto_if 57 with fail
  obtain ⟨u4,hu4⟩:∃ u4,(if t5 then (!g && !ex) else u3) = u4:=⟨_,rfl⟩
  have HU4:=Lib.hid hu4
  clear hu4 ht5
  go_cut [11] from 11 to 65 (fun s11 wx=>s11 = .bool u4 ∧ w3 = wx)
  case first =>
    cases t5 with
    | false =>
      have HV:=Lib.hid (show u4 = u3 from HU4.out.symm)
      go_wp2_with fail
      go_meet
      exact ⟨by rw [HV.out],rfl⟩
    | true =>
      have HV:=Lib.hid (show u4 = (!g && !ex) from HU4.out.symm)
      cases g with
      | true =>
        go_wp2_with fail
        go_meet
        exact ⟨by rw [HV.out] <;> rfl,rfl⟩
      | false =>
        cases ex with
        | false =>
          go_wp2_with fail
          go_meet
          exact ⟨by rw [HV.out] <;> rfl,rfl⟩
        | true =>
          go_wp2_with fail
          go_meet
          exact ⟨by rw [HV.out] <;> rfl,rfl⟩
  case rest =>
  obtain ⟨rfl,hwx⟩:=hcut
  subst hwx
  have HUP:Hid (upR g F ex h way = u4):=Lib.hid (by
    rw [← HU4.out,← HU3.out,← HU2.out,← HU1.out,← HT.out,← HTT.out,← HT4.out,← HT5.out]
    unfold upR
    by_cases w1:way = 1
    · subst w1;rfl
    by_cases w2:way = 2
    · subst w2;rfl
    by_cases w4:way = 4
    · subst w4;rfl
    by_cases w5:way = 5
    · subst w5;rfl
    rw [if_neg w1,if_neg w2,if_neg w4,if_neg w5,show (way == 1) = false by simpa using w1,show (way == 2) = false by simpa using w2,show (way == 4) = false by simpa using w4,show (way == 5) = false by simpa using w5]
    rfl)
  have HR2:Hid (R = endP g (if u4 then F + 1 else F)):=Lib.hid (by rw [HR.out,HUP.out])
  obtain ⟨b,hb⟩:∃ b,(if u4 then F + 1 else F) = b:=⟨_,rfl⟩
  rw [hb] at HR2
  have HBE:=Lib.hid hb
  have HBM:Hid (b ≤ most + 1):=Lib.hid (by rw [← HBE.out];have:=HFM.out;split <;> omega)
  clear hb HUP HR HU1 HU2 HU3 HU4 HT HTT HT4 HT5
  go_upto_if 65 with fail
  go_cut [6] from 6 to 68 (fun s6 wx=>s6 = .int .u64 b ∧ w3 = wx)
  case first =>
    obtain ⟨F1,hF1⟩:∃ F1,F + 1 = F1:=⟨_,rfl⟩
    have k1:(F:Int) + 1 = (F1:Int):=by omega
    have k1':IntKind.u64.wrap ((F:Int) + 1) = (F1:Int):=by rw [k1];exact wrapN _ (by unfold W64;omega)
    rw [hF1] at HBE
    clear hF1
    cases u4 with
    | true =>
      have HV:=Lib.hid (show b = F1 from HBE.out.symm)
      go_wp2_with fail
      go_meet
      exact ⟨by rw [HV.out],rfl⟩
    | false =>
      have HV:=Lib.hid (show b = F from HBE.out.symm)
      go_wp2_with fail
      go_meet
      exact ⟨by rw [HV.out],rfl⟩
  case rest =>
  obtain ⟨rfl,hwx⟩:=hcut
  subst hwx
  have hbI:(b:Int) ≤ 9218868437227405312:=by have:=HBM.out;unfold most at this;omega
  by_cases hbm:most < b
  · have HRN:=Lib.hid (show R = none by rw [HR2.out];exact endP_none hbm)
    have t1:decide ((9218868437227405311:Int) < (b:Int)) = true:=decide_eq_true (by unfold most at hbm;omega)
    have t1':decide (9218868437227405311 < b) = true:=decide_eq_true (by unfold most at hbm;omega)
    clear hbm
    go_wp2_with fail
    go_ret2
    exact ⟨by rw [HRN.out] <;> rfl,HB3.out⟩
  · have HRS:=Lib.hid (show R = some (if g && decide (0 < b) then b + 9223372036854775808 else b) by rw [HR2.out];exact endP_some hbm)
    have t1:decide ((9218868437227405311:Int) < (b:Int)) = false:=decide_eq_false (by unfold most at hbm;omega)
    have t1':decide (9218868437227405311 < b) = false:=decide_eq_false (by unfold most at hbm;omega)
    have HBB:=Lib.hid hbm
    clear hbm
    cases g with
    | false =>
      have HV:=Lib.hid (show R = some b from HRS.out)
      clear HRS
      go_wp2_with fail
      go_ret2
      exact ⟨by rw [HV.out] <;> rfl,HB3.out⟩
    | true =>
      by_cases hb0:0 < b
      · have HV:=Lib.hid (show R = some (b + 9223372036854775808) by rw [HRS.out,decide_eq_true hb0];rfl)
        have t2:decide ((0:Int) < (b:Int)) = true:=decide_eq_true (by omega)
        have t2':decide (0 < b) = true:=decide_eq_true hb0
        obtain ⟨B,hB⟩:∃ B,b + 9223372036854775808 = B:=⟨_,rfl⟩
        have k1:(b:Int) + 9223372036854775808 = (B:Int):=by omega
        have k1':IntKind.u64.wrap ((b:Int) + 9223372036854775808) = (B:Int):=by rw [k1];exact wrapN _ (by unfold W64;omega)
        rw [hB] at HV
        clear HRS hB hb0
        go_wp2_with fail
        go_ret2
        exact ⟨by rw [HV.out] <;> rfl,HB3.out⟩
      · obtain rfl:b = 0:=by omega
        have HV:=Lib.hid (show R = some 0 from HRS.out)
        clear HRS hb0
        go_wp2_with fail
        go_ret2
        exact ⟨by rw [HV.out] <;> rfl,HB3.out⟩
end Go.Proofs.YtgmholdkdppbmaaGreatDoor

namespace Go.Proofs.YtgmholdkdppbmaaGreatDoor.Lx
open Go.RowKit Go.Shelf
attribute [local go_sem ↓] Go.wp_at_zero Go.wp_at_succ
theorem own_below {w w':World} {base n size:Nat} {e:TypeId} {v:Value} {xs:List Value} (h:w.ownsRow base e size v n xs) (hb:Below w.heap.size w w'):w'.ownsRow base e size v n xs:=by
  refine h.kept ⟨hb.os,hb.tape,hb.output,hb.size,fun k hk' _=>hb.block k hk'⟩ (row:=none) ?_
  cases hv:v.ownBlock with
  | none=>exact .inl rfl
  | some k=>exact .inr (by simp)
theorem escP_len (l:List UInt8) (p:Nat) (sy:List UInt8) (n:Nat) (h:escP l p = .ok sy n):sy.length ≤ n:=by
  unfold escP at h
  split at h
  · split at h
    · split at h
      · cases h
      · cases h
      · split at h
        · injection h with h1 h2;subst h1 h2
          exact Nat.le_trans (enc_le _) (by omega)
        · split at h
          · cases h
          · split at h
            · cases h
            · split at h
              · cases h
              · split at h
                · cases h
                · split at h
                  · cases h
                  · cases h
                  · injection h with h1 h2;subst h1 h2
                    exact Nat.le_trans (enc_le _) (by omega)
    · split at h
      · cases h
      · injection h with h1 h2;subst h1 h2;simp
  · cases h
theorem piece_len (s:List UInt8) (i:Nat) (sy:List UInt8) (n:Nat) (h:piece s i = .ok sy n):sy.length ≤ n:=by
  unfold piece at h
  split at h
  · exact escP_len _ _ _ _ h
  · split at h
    · cases h
    · split at h
      · injection h with h1 h2;subst h1 h2
        rw [List.length_take];omega
      · split at h <;> cases h
def txV:Tx → Value
  | .ok l n=>.tuple #[.string ⟨l.toArray⟩,.int .i64 (n:Nat),.agg #[.string ⟨#[]⟩,.int .i64 0,.int .i64 0,.int .i64 0,.bool false]]
  | .bad no p=>.tuple #[.string ⟨#[]⟩,.int .i64 0,.agg #[.string ⟨#[]⟩,.int .i64 0,.int .i64 (no:Nat),.int .i64 (p:Nat),.bool false]]
  | .cut=>.tuple #[.string ⟨#[]⟩,.int .i64 0,.agg #[.string ⟨#[]⟩,.int .i64 0,.int .i64 0,.int .i64 0,.bool true]]
theorem set5_size (W:World) (g:Nat) (a b c d e:Value):(set5 W g a b c d e).heap.size = W.heap.size:=by simp [set5]
theorem text_end {R:Ending → World → Prop} {a:Act} {W:World} {g:Nat} {t:TypeId} {u v p q r x y:Value} (hb:Blk W g t #[p,q,r,x,y]) (h4:a.tmps.getD 4 undef = u) (h5:a.tmps.getD 5 undef = v) (h6:a.tmps.getD 6 undef = .pointer (some ⟨g,0,none⟩)) (hd:a.defers = [])
    (hR:R (.returned (.tuple #[u,v,.agg #[p,q,r,x,y]])) W):bodyPost Tryz.prog Tryz.f42 R .ret a W:=by
  obtain ⟨n0,n1,n2,n3,n4⟩:=cells5 hb
  refine bodyPost_ret (v:=.tuple #[u,v,.agg #[p,q,r,x,y]]) ?_ hd hR
  rw [Array.getD_eq_getD_getElem?] at h4 h5 h6
  simp [results,Tryz.results42,go_sem,h4,h5,h6,n0,n1,n2,n3,n4]
set_option maxRecDepth 100000 in
set_option maxHeartbeats 8000000 in
theorem rtext_any (s:List UInt8) (i:Nat) (w:World) (hi:i < s.length) (hs:s.length ≤ 1000000000000) :
    Calls Tryz.prog 42 #[.string ⟨s.toArray⟩,.int .i64 (i:Nat)] w fun e w'=>e = .returned (txV (txtF s (i + 1) [])) ∧ Below w.heap.size w w':=by
  obtain ⟨RES,hRES⟩:∃ RES,txtF s (i + 1) [] = RES:=⟨_,rfl⟩
  rw [hRES]
  have HRES:=Lib.hid hRES
  have HS:=Lib.hid hs
  have hsI:(s.length:Int) ≤ 1000000000000:=by omega
  have hiI:(i:Int) < (s.length:Int):=by omega
  clear hRES
  go_enter Tryz.func42,Tryz.ntmps42
  go_wp2_with fail
  go_loopw [7,8] (fun v k wr=>∃ (q:Nat) (acc:List UInt8),q ≤ s.length ∧ k = .int .i64 q ∧ acc.length ≤ q ∧ txtF s q acc = RES ∧ wr.ownsRow (w.heap.size + 1) 5 1 v acc.length (acc.map bv) ∧
    Blk wr w.heap.size 105 #[.string ⟨#[]⟩,.int .i64 0,.int .i64 0,.int .i64 0,.bool false] ∧ Below w.heap.size w wr) (fun _ k _=>s.length - (intOf k).toNat)
  case atStart =>
    refine ⟨i + 1,[],by omega,by go_num,by simp,HRES.out,?_,?_,?_⟩
    · exact ⟨by simp,.inr ⟨w.heap.size + 1,0,#[],by simp,Nat.le_refl _,by rw [← World.size_alloc w (.cells #[.string ⟨#[]⟩,.int .i64 0,.int .i64 0,.int .i64 0,.bool false] 105)];exact heap_alloc_new _ _,by simp,by unfold maxLen;omega,by simp,by simp⟩⟩
    · exact (Blk.new w 105 _).alloc _
    · exact ((Below.refl _ _).alloc (Nat.le_refl _) _).alloc (by simp) _
  case round =>
    obtain ⟨q,acc,hq,rfl,hal,htx,hown,hblk,hbel⟩:=hrel
    obtain ⟨A1,c1,rfl,hc1⟩:=own_shape hown
    have HOWN:=Lib.hid hown
    have HB:=Lib.hid hblk
    have HBE:=Lib.hid hbel
    have HTX:=Lib.hid htx
    have HAL:=Lib.hid hal
    have hsz:=hbel.size
    have hszb:=hblk.lt
    obtain ⟨n0,n1,n2,n3,n4⟩:=cells5 hblk
    have f0:=hblk.frozen 0
    have f1:=hblk.frozen 1
    have f2:=hblk.frozen 2
    have f3:=hblk.frozen 3
    have f4:=hblk.frozen 4
    have q1:(0:Int) ≤ q:=by omega
    by_cases hlt:q < s.length
    · obtain ⟨c,hc⟩:∃ c,s[q] = c:=⟨_,rfl⟩
      have hget:=get_c s q c hlt hc
      have hqI:(q:Int) < (s.length:Int):=by omega
      have e34:=bit_byte c 34
      rw [show (((34:UInt8).toNat:Int)) = 34 from rfl] at e34
      by_cases h34:c = 34
      · rw [decide_eq_true h34] at e34
        have hr:RES = .ok acc (q + 1):=by rw [← htx];exact txtF_quote hlt (by rw [hc];exact h34)
        have HR:=Lib.hid hr
        have kst:=str_of_RB (RB.of_own hown) c1
        clear hblk hbel hown htx hal hq hc h34 hr
        go_wp2_with fail
        refine text_end (set5_blk HB.out _ _ _ _ _) rfl rfl rfl rfl ⟨?_,set5_below HBE.out (Nat.le_refl _) _ _ _ _ _⟩
        rw [HR.out]
        rfl
      · rw [decide_eq_false h34] at e34
        have hne:s[q] ≠ 34:=by rw [hc];exact h34
        have HA:=Lib.hid (fun W=>rat9_any s q W hlt hs)
        rcases hP:piece s q with ⟨sy,n⟩ | ⟨no,p⟩ | _
        · have hpo:=((run_piece (fun _=>none) 0 [] s q hlt hne).2.2 sy n hP)
          obtain ⟨hn0,hnl,_⟩:=hpo
          have hsyn:=piece_len s q sy n hP
          rw [hP,show pcV (.ok sy n) = .agg #[.string ⟨sy.toArray⟩,.int .i64 (n:Nat),.int .i64 0,.int .i64 0,.bool false] from rfl] at HA
          have HTX2:=Lib.hid (show txtF s (q + n) (acc ++ sy) = RES by rw [← htx];exact (txtF_ok hlt hne hP hn0).symm)
          obtain ⟨q2,hq2⟩:∃ q2,q + n = q2:=⟨_,rfl⟩
          have hq2I:(q:Int) + (n:Int) = (q2:Int):=by omega
          have hq2b:(q2:Int) ≤ 1000000000000:=by omega
          have HQ2:=Lib.hid (And.intro hq2 (And.intro hn0 (And.intro hnl hsyn)))
          have hnb:(n:Int) ≤ 1000000000000:=by omega
          clear hblk hbel hown htx hal hq hc h34 hP hne hs hn0 hnl hsyn hq2
          go_wp2_with fail
          refine (HA.out _).mono ?_
          rintro e w1 ⟨rfl,hb⟩
          have HOL:=Lib.hid (fun k hk=>((own_below HOWN.out hb).lt k hk).2)
          have HO1:=Lib.hid ((own_below HOWN.out hb).alloc (.cells #[.string ⟨sy.toArray⟩,.int .i64 (n:Nat),.int .i64 0,.int .i64 0,.bool false] 105))
          have HB1:=Lib.hid ((HB.out.below hb HB.out.lt).alloc (.cells #[.string ⟨sy.toArray⟩,.int .i64 (n:Nat),.int .i64 0,.int .i64 0,.bool false] 105))
          have HE1:=Lib.hid ((keepb HBE.out hb).alloc (Nat.le_trans hsz hb.size) (.cells #[.string ⟨sy.toArray⟩,.int .i64 (n:Nat),.int .i64 0,.int .i64 0,.bool false] 105))
          have HN1:=Lib.hid (Blk.new w1 105 #[.string ⟨sy.toArray⟩,.int .i64 (n:Nat),.int .i64 0,.int .i64 0,.bool false])
          have hs1:w.heap.size ≤ w1.heap.size:=Nat.le_trans hsz hb.size
          have hs2:w.heap.size < w1.heap.size:=Nat.lt_of_lt_of_le hszb hb.size
          clear hb n0 n1 n2 n3 n4 f0 f1 f2 f3 f4
          go_wp2_with (at_builtin;refine wpList_pushstr rfl (.tmp 37) (.tmp 39) rfl (w.heap.size + 1) _ _ acc rfl HO1.out sy rfl (by have:=HAL.out;have:=HQ2.out;have:=HS.out;omega) (by rw [World.size_alloc];omega) ?_;intro A2 c2 w2 ho2 hg2 _;have HO2:=Lib.hid ho2;have HG2:=Lib.hid hg2;have m1:w2.cell? ⟨w1.heap.size,1,none⟩ = some (.int .i64 (n:Nat)):=hg2.cell (by rw [HN1.out.cell];rfl) (by intro hk;have:=HOL.out _ hk.symm;simp at this);clear ho2 hg2)
          go_roundw
          case rel =>
            refine ⟨q2,acc ++ sy,by have:=HQ2.out;omega,by go_num,by have:=HQ2.out;have:=HAL.out;rw [List.length_append];omega,by rw [← HQ2.out.1];exact HTX2.out,by rw [List.length_append];exact HO2.out,?_,?_⟩
            · exact HB1.out.grown HG2.out (by intro hk;have:=(HO1.out.lt _ hk.symm);omega)
            · exact HE1.out.grown HG2.out (by rw [World.size_alloc];omega) (fun k hk=>by have:=(HO1.out.lt k hk).1;omega)
          case measure=>have:=HQ2.out;simp [intOf];omega
        · have hno:=piece_no s q no p hP
          have hr:RES = .bad no p:=by rw [← htx];exact txtF_bad hlt hne hP
          have HR:=Lib.hid hr
          rw [hP,show pcV (.bad no p) = .agg #[.string ⟨#[]⟩,.int .i64 0,.int .i64 (no:Nat),.int .i64 (p:Nat),.bool false] from rfl] at HA
          have e3:((no:Int) != 0) = true:=by rw [bne_iff_ne];omega
          clear hblk hbel hown htx hal hq hc h34 hP hne hs hno hr
          go_wp2_with fail
          refine (HA.out _).mono ?_
          rintro e w1 ⟨rfl,hb⟩
          have hs2:w.heap.size < w1.heap.size:=Nat.lt_of_lt_of_le hszb hb.size
          have HBW:=Lib.hid (HB.out.below hb HB.out.lt)
          have HEW:=Lib.hid (keepb HBE.out hb)
          have hs3:w.heap.size ≤ w1.heap.size:=Nat.le_trans hsz hb.size
          clear hb n0 n1 n2 n3 n4 f0 f1 f2 f3 f4
          obtain ⟨n0,n1,n2,n3,n4⟩:=cells5 HBW.out
          have f0:=HBW.out.frozen 0
          have f1:=HBW.out.frozen 1
          have f2:=HBW.out.frozen 2
          have f3:=HBW.out.frozen 3
          have f4:=HBW.out.frozen 4
          go_wp2_with fail
          go_region
          go_wp2_with fail
          have hfin:=((set5_blk HBW.out (.string ⟨#[]⟩) (.int .i64 0) (.int .i64 (no:Nat)) (.int .i64 (p:Nat)) (.bool false)).alloc (.cells #[.string ⟨#[]⟩,.int .i64 0,.int .i64 (no:Nat),.int .i64 (p:Nat),.bool false] 105)).drew
          have hfe:=((set5_below HEW.out (Nat.le_refl _) (.string ⟨#[]⟩) (.int .i64 0) (.int .i64 (no:Nat)) (.int .i64 (p:Nat)) (.bool false)).alloc (by rw [set5_size];exact hs3) (.cells #[.string ⟨#[]⟩,.int .i64 0,.int .i64 (no:Nat),.int .i64 (p:Nat),.bool false] 105)).drew
          rw [HR.out]
          exact text_end hfin rfl rfl rfl rfl ⟨rfl,hfe⟩
        · have hr:RES = .cut:=by rw [← htx];exact txtF_cut hlt hne hP
          have HR:=Lib.hid hr
          rw [hP,show pcV .cut = .agg #[.string ⟨#[]⟩,.int .i64 0,.int .i64 0,.int .i64 0,.bool true] from rfl] at HA
          clear hblk hbel hown htx hal hq hc h34 hP hne hs hr
          go_wp2_with fail
          refine (HA.out _).mono ?_
          rintro e w1 ⟨rfl,hb⟩
          have hs2:w.heap.size < w1.heap.size:=Nat.lt_of_lt_of_le hszb hb.size
          have HBW:=Lib.hid (HB.out.below hb HB.out.lt)
          have HEW:=Lib.hid (keepb HBE.out hb)
          have hs3:w.heap.size ≤ w1.heap.size:=Nat.le_trans hsz hb.size
          clear hb n0 n1 n2 n3 n4 f0 f1 f2 f3 f4
          obtain ⟨n0,n1,n2,n3,n4⟩:=cells5 HBW.out
          have f0:=HBW.out.frozen 0
          have f1:=HBW.out.frozen 1
          have f2:=HBW.out.frozen 2
          have f3:=HBW.out.frozen 3
          have f4:=HBW.out.frozen 4
          go_wp2_with fail
          go_region
          go_wp2_with fail
          have hfin:=((set5_blk HBW.out (.string ⟨#[]⟩) (.int .i64 0) (.int .i64 0) (.int .i64 0) (.bool true)).alloc (.cells #[.string ⟨#[]⟩,.int .i64 0,.int .i64 0,.int .i64 0,.bool true] 105)).drew
          have hfe:=((set5_below HEW.out (Nat.le_refl _) (.string ⟨#[]⟩) (.int .i64 0) (.int .i64 0) (.int .i64 0) (.bool true)).alloc (by rw [set5_size];exact hs3) (.cells #[.string ⟨#[]⟩,.int .i64 0,.int .i64 0,.int .i64 0,.bool true] 105)).drew
          rw [HR.out]
          exact text_end hfin rfl rfl rfl rfl ⟨rfl,hfe⟩
    · have hr:RES = .cut:=by rw [← htx];exact txtF_end (by omega)
      have HR:=Lib.hid hr
      have d0:decide (q < s.length) = false:=by rw [decide_eq_false_iff_not];omega
      have d1:decide ((q:Int) < (s.length:Int)) = false:=by rw [decide_eq_false_iff_not];omega
      clear hblk hbel hown htx hal hq hr
      go_wp2_with fail
      refine text_end (set5_blk HB.out _ _ _ _ _) rfl rfl rfl rfl ⟨?_,set5_below HBE.out (Nat.le_refl _) _ _ _ _ _⟩
      rw [HR.out]
      rfl
end Go.Proofs.YtgmholdkdppbmaaGreatDoor.Lx

namespace Go.Proofs.YtgmholdkdppbmaaGreatDoor.Lx
open Go.RowKit Go.Shelf
attribute [local go_sem ↓] Go.wp_at_zero Go.wp_at_succ
theorem okd_bare {s:List UInt8} (h:s.length ≤ 140737488353000):Okd (bareP s):=by
  have hl:=bareP_len s
  exact ⟨bareP_bare s,by omega,by omega,by omega⟩
set_option maxRecDepth 100000 in
theorem rflo_any (s:List UInt8) (w:World) (hs:s.length ≤ 1000000000000) (hq:wrongP s = none) :
    Calls Tryz.prog 45 #[.string ⟨s.toArray⟩] w fun e w'=>e = .returned (roundR (flP s)) ∧ Below w.heap.size w w':=by
  have HB:=Lib.hid (fun W=>rbare_any s W (by omega) hq)
  have HR:=Lib.hid (fun W=>rround_any (bareP s) 1 W (okd_bare (by omega)))
  rw [show roundP (bareP s) 1 = flP s from rfl] at HR
  unfold sv at HB
  have hv:∃ a b c,decV (bareP s) = .agg #[a,b,c]:=⟨_,_,_,rfl⟩
  obtain ⟨da,db,dc,hv⟩:=hv
  rw [hv] at HB HR
  clear hv hq hs
  generalize flP s = o at *
  go_enter Tryz.func45,Tryz.ntmps45
  go_wp2_with fail
  refine (HB.out _).mono ?_
  rintro e w1 ⟨rfl,hb⟩
  have HB1:=Lib.hid hb
  clear hb
  go_wp2_with fail
  refine (HR.out _).mono ?_
  rintro e w2 ⟨rfl,hb⟩
  have HE:=Lib.hid (keepb HB1.out hb)
  clear hb
  cases o with
  | none =>
    simp only [roundR]
    go_wp2_with fail
    exact bodyPost_ret (v:=.tuple #[.int .u64 0,.bool false]) (by simp [results,Tryz.results45,go_sem]) rfl ⟨rfl,HE.out⟩
  | some x =>
    simp only [roundR]
    go_wp2_with fail
    exact bodyPost_ret (v:=.tuple #[.int .u64 (x:Int),.bool true]) (by simp [results,Tryz.results45,go_sem]) rfl ⟨rfl,HE.out⟩
end Go.Proofs.YtgmholdkdppbmaaGreatDoor.Lx

namespace Go.Proofs.YtgmholdkdppbmaaGreatDoor.Lx
open Go.RowKit Go.Shelf
attribute [local go_sem ↓] Go.wp_at_zero Go.wp_at_succ
def tokR (t:Tok):List Value:=match t.k with
  | .mark c=>[.int .i64 1,.int .i64 (t.pos:Nat),.int .i64 (t.size:Nat),.string ⟨#[c]⟩,.int .u64 0]
  | .term l=>[.int .i64 2,.int .i64 (t.pos:Nat),.int .i64 (t.size:Nat),.string ⟨l.toArray⟩,.int .u64 0]
  | .num b=>[.int .i64 3,.int .i64 (t.pos:Nat),.int .i64 (t.size:Nat),.string ⟨#[]⟩,.int .u64 (b:Nat)]
  | .str l=>[.int .i64 4,.int .i64 (t.pos:Nat),.int .i64 (t.size:Nat),.string ⟨l.toArray⟩,.int .u64 0]
theorem tokR_len (t:Tok):(tokR t).length = 5:=by unfold tokR;cases t.k <;> rfl
theorem info_tok9:(Tryz.prog.info? 60).map (fun i=>(i.zero,i.size,i.bytes)) = some (some (.agg #[.int .i64 0,.int .i64 0,.int .i64 0,.string ⟨#[]⟩,.int .u64 0]),5,48):=by kernel_rfl
theorem wpList_tok9 {ops:Array Oper} {rest:List Oper} {o:Oper} {a:Act} {Q:Exit → Act → World → Prop} {w:World} (hgd:o.guard = none) (s x:Operand)
    (ho:o.op = .call { callee:=.builtin .append,args:=#[s,x],argTypes:=#[29,29] })
    (base:Nat) (v:Value) (n:Nat) (ts:List Value) (hs:a.eval s = v) (hown:w.ownsRow base 60 5 v n ts)
    (g0 c0:Nat) (hx:a.eval x = .slice (some ⟨g0,0,none⟩) 1 c0) (cs:List Value) (hl:cs.length = 5) (h1:∀ u ∈ cs,u.oneCell' = true) (hc:Blk w g0 60 cs.toArray) (hn:n < 1407374883553) (hbase:base ≤ w.heap.size)
    (h:∀ g cap w',w'.ownsRow base 60 5 (.slice (some ⟨g,0,none⟩) (n + 1) cap) (n + 1) (ts ++ cs) → w.grownBy w' v.ownBlock →
      wpList Tryz.prog ops Q rest (a.put o.dst (.slice (some ⟨g,0,none⟩) (n + 1) cap)) w'):wpList Tryz.prog ops Q (o :: rest) a w:=by
  obtain ⟨i,hi,hz,hsize,hby⟩:=info_parts info_tok9
  refine wpList_append_lies (P:=Tryz.prog) w hgd s x 29 ho base 60 i _ 5 48 Tryz.underlying29 hi hz hsize hby rfl (by omega) v n ts hs hown ⟨g0,0,none⟩ 1 c0 cs hx (by omega) ?_ h1 (by omega) (by unfold maxLen;omega) (by omega) hbase w.heap.size rfl ?_
  · intro j u hj
    have ha:(⟨g0,0,none⟩:Addr).add j = ⟨g0,j,none⟩:=by unfold Addr.add;split <;> simp_all
    rw [ha,hc.cell]
    simpa using hj
  · intro g cap w' h1 h2 h3 h4
    exact h g cap w' (by simpa using h1) h2
def firstLoop:Code → Option Code
  | .loop c=>some c
  | .seq a b=>match firstLoop a with
    | some c=>some c
    | none=>firstLoop b
  | .block _ c=>firstLoop c
  | .scope c=>firstLoop c
  | .cond _ a b=>match firstLoop a with
    | some c=>some c
    | none=>firstLoop b
  | _=>none
noncomputable def body9:Code:=((Tryz.f30.body.bind firstLoop).getD .skip)
def R9 (s:List UInt8) (en:Bool) (w0:World) (p:Nat) (toks:List Tok) (v:Value) (wr:World):Prop :=
  p ≤ s.length ∧ rdF flP s en 0 = (rdF flP s en p).pre toks ∧ toks.length ≤ p ∧ wr.ownsRow (w0.heap.size + 2) 60 5 v toks.length (toks.flatMap tokR) ∧ Blk wr w0.heap.size 32 #[.slice none 0 0,.int .i64 0,.int .i64 0,.int .i64 0,.int .i64 0] ∧
  Blk wr (w0.heap.size + 1) 32 #[v,.int .i64 0,.int .i64 0,.int .i64 0,.int .i64 0] ∧ Below w0.heap.size w0 wr
def RdE (s:List UInt8) (en:Bool) (w0 w':World):Prop :=
  ∃ v,Blk w' w0.heap.size 32 #[v,.int .i64 ((rdF flP s en 0).no:Nat),.int .i64 ((rdF flP s en 0).pos:Nat),.int .i64 ((rdF flP s en 0).found:Nat),.int .i64 ((rdF flP s en 0).held:Nat)] ∧
    w'.ownsRow (w0.heap.size + 2) 60 5 v (rdF flP s en 0).toks.length ((rdF flP s en 0).toks.flatMap tokR) ∧ Below w0.heap.size w0 w'
set_option maxRecDepth 1000000 in
def WI9 (s:List UInt8) (en:Bool) (w0:World) (K:Nat → Prop) (a:Act) (w':World):Prop :=
  ∃ Ug Uh Ui Uj Uk Ul Um Un Uo Up Uq Ur Us Ut Uu Uv Uw Ux Uy Uz UA UB UC UD UE UF UG UH UI UJ UK UL UM UN UO UP UQ UR US UT UU UV UW UX UY UZ U0 U1 U2 U3 U4 U5 U6 U7 U8 U9 Va Vb Vc Vd Ve Vf Vg Vh Vi Vj Vk Vl Vm Vn Vo Vp Vq Vr Vs Vt Vu Vv Vw Vx Vy Vz VA VB VC VD VE VF VG VH VI VJ VK VL VM VN VO VP VQ VR VS VT VU VV VW VX VY VZ V0 V1 V2 V3 V4 V5 V6 V7 V8 V9 Wa Wb Wc Wd We Wf Wg Wh Wi Wj Wk Wl Wm Wn Wo Wp Wq Wr Ws Wt Wu Wv Ww Wx Wy Wz WA WB WC WD WE WF WG WH WI WJ WK WL WM WN WO WP WQ WR WS WT WU WV WW WX WY WZ W0 W1 W2 W3 W4 W5 W6 W7 W8 W9 Xa Xb Xc Xd Xe Xf Xg Xh Xi Xj Xk Xl Xm Xn Xo Xp Xq Xr Xs Xt Xu Xv Xw Xx Xy Xz XA XB XC XD XE XF XG XH XI XJ:Value,(∃ p toks v,K p ∧ Ug = .int .i64 (p:Nat) ∧ R9 s en w0 p toks v w') ∧ a = ⟨#[.string ⟨s.toArray⟩,.bool en,undef,undef,.pointer (some ⟨w0.heap.size,0,none⟩),.pointer (some ⟨w0.heap.size + 1,0,none⟩),Ug,Uh,Ui,Uj,Uk,Ul,Um,Un,Uo,Up,Uq,Ur,Us,Ut,Uu,Uv,Uw,Ux,Uy,Uz,UA,UB,UC,UD,UE,UF,UG,UH,UI,UJ,UK,UL,UM,UN,UO,UP,UQ,UR,US,UT,UU,UV,UW,UX,UY,UZ,U0,U1,U2,U3,U4,U5,U6,U7,U8,U9,Va,Vb,Vc,Vd,Ve,Vf,Vg,Vh,Vi,Vj,Vk,Vl,Vm,Vn,Vo,Vp,Vq,Vr,Vs,Vt,Vu,Vv,Vw,Vx,Vy,Vz,VA,VB,VC,VD,VE,VF,VG,VH,VI,VJ,VK,VL,VM,VN,VO,VP,VQ,VR,VS,VT,VU,VV,VW,VX,VY,VZ,V0,V1,V2,V3,V4,V5,V6,V7,V8,V9,Wa,Wb,Wc,Wd,We,Wf,Wg,Wh,Wi,Wj,Wk,Wl,Wm,Wn,Wo,Wp,Wq,Wr,Ws,Wt,Wu,Wv,Ww,Wx,Wy,Wz,WA,WB,WC,WD,WE,WF,WG,WH,WI,WJ,WK,WL,WM,WN,WO,WP,WQ,WR,WS,WT,WU,WV,WW,WX,WY,WZ,W0,W1,W2,W3,W4,W5,W6,W7,W8,W9,Xa,Xb,Xc,Xd,Xe,Xf,Xg,Xh,Xi,Xj,Xk,Xl,Xm,Xn,Xo,Xp,Xq,Xr,Xs,Xt,Xu,Xv,Xw,Xx,Xy,Xz,XA,XB,XC,XD,XE,XF,XG,XH,XI,XJ,undef],[]⟩
def mu9 (s:List UInt8) (a:Act):Nat:=s.length - (intOf (a.tmps.getD 6 undef)).toNat
def RD9 (s:List UInt8) (en:Bool) (w0:World) (x:Exit) (a:Act) (w':World):Prop :=
  (x = .ret ∧ a.tmps.getD 4 undef = .pointer (some ⟨w0.heap.size,0,none⟩) ∧ a.defers = [] ∧ RdE s en w0 w') ∨ (x = .exit 0 ∧ WI9 s en w0 (fun p=>p = s.length) a w')
theorem own_set5 {w:World} {base n size g:Nat} {e:TypeId} {v:Value} {xs:List Value} (h:w.ownsRow base e size v n xs) (hg:g < base) (a b c d x:Value):(set5 w g a b c d x).ownsRow base e size v n xs:=by
  have hne:v.ownBlock ≠ some g:=fun hk=>by have:=(h.lt g hk).1;omega
  unfold set5
  exact ownsRow_setCell_other (ownsRow_setCell_other (ownsRow_setCell_other (ownsRow_setCell_other (ownsRow_setCell_other h hne _) hne _) hne _) hne _) hne _
theorem rd_of {s:List UInt8} {en:Bool} {w0 W:World} {p no pos f h:Nat} {toks:List Tok} {v a0 b0 c0 d0 e0:Value} (hb:Blk W w0.heap.size 32 #[a0,b0,c0,d0,e0]) (hown:W.ownsRow (w0.heap.size + 2) 60 5 v toks.length (toks.flatMap tokR)) (hbel:Below w0.heap.size w0 W)
    (hrd:rdF flP s en 0 = (rdF flP s en p).pre toks) (hp:rdF flP s en p = ⟨[],no,pos,f,h⟩) :
    RdE s en w0 (set5 W w0.heap.size v (.int .i64 (no:Nat)) (.int .i64 (pos:Nat)) (.int .i64 (f:Nat)) (.int .i64 (h:Nat))):=by
  refine ⟨v,?_,?_,set5_below hbel (Nat.le_refl _) _ _ _ _ _⟩
  · rw [hrd,hp];exact set5_blk hb _ _ _ _ _
  · rw [hrd,hp]
    simp only [Ot.pre,List.append_nil]
    exact own_set5 hown (by omega) _ _ _ _ _
theorem r9_push {s:List UInt8} {en:Bool} {w0 wr W w2:World} {p pn:Nat} {toks:List Tok} {t:Tok} {v v':Value} (h:R9 s en w0 p toks v wr) (hrd:rdF flP s en p = (rdF flP s en pn).cons t) (hto:p < pn) (hle:pn ≤ s.length)
    (hW:Below wr.heap.size wr W) (hown2:w2.ownsRow (w0.heap.size + 2) 60 5 v' (toks.length + 1) (toks.flatMap tokR ++ tokR t)) (hg:W.grownBy w2 v.ownBlock) :
    R9 s en w0 pn (toks ++ [t]) v' (w2.setCell ⟨w0.heap.size + 1,0,none⟩ v'):=by
  obtain ⟨h1,h2,h3,h4,h5,h6,h7⟩:=h
  have hlt:=h6.lt
  have hsz:=hW.size
  have hne':v'.ownBlock ≠ some (w0.heap.size + 1):=fun hk=>by have:=(hown2.lt _ hk).1;omega
  have n1:some w0.heap.size ≠ v.ownBlock:=fun hk=>by have:=(h4.lt _ hk.symm).1;omega
  have n2:some (w0.heap.size + 1) ≠ v.ownBlock:=fun hk=>by have:=(h4.lt _ hk.symm).1;omega
  refine ⟨hle,?_,by rw [List.length_append];simp;omega,?_,?_,?_,?_⟩
  · rw [h2,hrd]
    simp [Ot.pre,Ot.cons]
  · have:(toks ++ [t]).flatMap tokR = toks.flatMap tokR ++ tokR t:=by simp
    rw [this,List.length_append]
    exact ownsRow_setCell_other hown2 hne' _
  · exact ((h5.below hW h5.lt).grown hg n1).far (by simp) _
  · have:=((h6.below hW h6.lt).grown hg n2).set1 0 v'
    simpa using this
  · exact ((h7.trans (hW.mono (by omega))).grown hg (by omega) (fun k hk=>by have:=(h4.lt k hk).1;omega)).setCell (p:=⟨w0.heap.size + 1,0,none⟩) (by simp) _
end Go.Proofs.YtgmholdkdppbmaaGreatDoor.Lx

namespace Go.Proofs.YtgmholdkdppbmaaGreatDoor.Lx
open Go.RowKit Go.Shelf
attribute [local go_sem ↓] Go.wp_at_zero Go.wp_at_succ
theorem own_shape9 {w:World} {base n:Nat} {e:TypeId} {size:Nat} {v:Value} {xs:List Value} (h:w.ownsRow base e size v n xs):∃ A c,v = .slice A n c ∧ n ≤ c:=by
  rcases h.2 with ⟨rfl,rfl⟩ | ⟨g,cap,cur,rfl,_,_,hc,_⟩
  · exact ⟨none,0,rfl,by omega⟩
  · exact ⟨_,cap,rfl,hc⟩
set_option maxRecDepth 1000000 in
set_option maxHeartbeats 8000000 in
theorem case_end (s:List UInt8) (en:Bool) (w0 wr:World) (p:Nat) (toks:List Tok) (v:Value) (Uh Ui Uj Uk Ul Um Un Uo Up Uq Ur Us Ut Uu Uv Uw Ux Uy Uz UA UB UC UD UE UF UG UH UI UJ UK UL UM UN UO UP UQ UR US UT UU UV UW UX UY UZ U0 U1 U2 U3 U4 U5 U6 U7 U8 U9 Va Vb Vc Vd Ve Vf Vg Vh Vi Vj Vk Vl Vm Vn Vo Vp Vq Vr Vs Vt Vu Vv Vw Vx Vy Vz VA VB VC VD VE VF VG VH VI VJ VK VL VM VN VO VP VQ VR VS VT VU VV VW VX VY VZ V0 V1 V2 V3 V4 V5 V6 V7 V8 V9 Wa Wb Wc Wd We Wf Wg Wh Wi Wj Wk Wl Wm Wn Wo Wp Wq Wr Ws Wt Wu Wv Ww Wx Wy Wz WA WB WC WD WE WF WG WH WI WJ WK WL WM WN WO WP WQ WR WS WT WU WV WW WX WY WZ W0 W1 W2 W3 W4 W5 W6 W7 W8 W9 Xa Xb Xc Xd Xe Xf Xg Xh Xi Xj Xk Xl Xm Xn Xo Xp Xq Xr Xs Xt Xu Xv Xw Xx Xy Xz XA XB XC XD XE XF XG XH XI XJ:Value) (Q0:Exit → Act → World → Prop) (hs:s.length ≤ 1000000000000) (hr:R9 s en w0 p toks v wr)
    (hlen:p = s.length) (hQ:∀ x a w',RD9 s en w0 x a w' → Q0 x a w'):Code.wp Tryz.prog body9 (Exit.then (fun a' w''=>WI9 s en w0 (fun _=>True) a' w'' ∧ mu9 s a' < mu9 s ⟨#[.string ⟨s.toArray⟩,.bool en,undef,undef,.pointer (some ⟨w0.heap.size,0,none⟩),.pointer (some ⟨w0.heap.size + 1,0,none⟩),.int .i64 (p:Nat),Uh,Ui,Uj,Uk,Ul,Um,Un,Uo,Up,Uq,Ur,Us,Ut,Uu,Uv,Uw,Ux,Uy,Uz,UA,UB,UC,UD,UE,UF,UG,UH,UI,UJ,UK,UL,UM,UN,UO,UP,UQ,UR,US,UT,UU,UV,UW,UX,UY,UZ,U0,U1,U2,U3,U4,U5,U6,U7,U8,U9,Va,Vb,Vc,Vd,Ve,Vf,Vg,Vh,Vi,Vj,Vk,Vl,Vm,Vn,Vo,Vp,Vq,Vr,Vs,Vt,Vu,Vv,Vw,Vx,Vy,Vz,VA,VB,VC,VD,VE,VF,VG,VH,VI,VJ,VK,VL,VM,VN,VO,VP,VQ,VR,VS,VT,VU,VV,VW,VX,VY,VZ,V0,V1,V2,V3,V4,V5,V6,V7,V8,V9,Wa,Wb,Wc,Wd,We,Wf,Wg,Wh,Wi,Wj,Wk,Wl,Wm,Wn,Wo,Wp,Wq,Wr,Ws,Wt,Wu,Wv,Ww,Wx,Wy,Wz,WA,WB,WC,WD,WE,WF,WG,WH,WI,WJ,WK,WL,WM,WN,WO,WP,WQ,WR,WS,WT,WU,WV,WW,WX,WY,WZ,W0,W1,W2,W3,W4,W5,W6,W7,W8,W9,Xa,Xb,Xc,Xd,Xe,Xf,Xg,Xh,Xi,Xj,Xk,Xl,Xm,Xn,Xo,Xp,Xq,Xr,Xs,Xt,Xu,Xv,Xw,Xx,Xy,Xz,XA,XB,XC,XD,XE,XF,XG,XH,XI,XJ,undef],[]⟩) Q0) ⟨#[.string ⟨s.toArray⟩,.bool en,undef,undef,.pointer (some ⟨w0.heap.size,0,none⟩),.pointer (some ⟨w0.heap.size + 1,0,none⟩),.int .i64 (p:Nat),Uh,Ui,Uj,Uk,Ul,Um,Un,Uo,Up,Uq,Ur,Us,Ut,Uu,Uv,Uw,Ux,Uy,Uz,UA,UB,UC,UD,UE,UF,UG,UH,UI,UJ,UK,UL,UM,UN,UO,UP,UQ,UR,US,UT,UU,UV,UW,UX,UY,UZ,U0,U1,U2,U3,U4,U5,U6,U7,U8,U9,Va,Vb,Vc,Vd,Ve,Vf,Vg,Vh,Vi,Vj,Vk,Vl,Vm,Vn,Vo,Vp,Vq,Vr,Vs,Vt,Vu,Vv,Vw,Vx,Vy,Vz,VA,VB,VC,VD,VE,VF,VG,VH,VI,VJ,VK,VL,VM,VN,VO,VP,VQ,VR,VS,VT,VU,VV,VW,VX,VY,VZ,V0,V1,V2,V3,V4,V5,V6,V7,V8,V9,Wa,Wb,Wc,Wd,We,Wf,Wg,Wh,Wi,Wj,Wk,Wl,Wm,Wn,Wo,Wp,Wq,Wr,Ws,Wt,Wu,Wv,Ww,Wx,Wy,Wz,WA,WB,WC,WD,WE,WF,WG,WH,WI,WJ,WK,WL,WM,WN,WO,WP,WQ,WR,WS,WT,WU,WV,WW,WX,WY,WZ,W0,W1,W2,W3,W4,W5,W6,W7,W8,W9,Xa,Xb,Xc,Xd,Xe,Xf,Xg,Xh,Xi,Xj,Xk,Xl,Xm,Xn,Xo,Xp,Xq,Xr,Xs,Xt,Xu,Xv,Xw,Xx,Xy,Xz,XA,XB,XC,XD,XE,XF,XG,XH,XI,XJ,undef],[]⟩ wr:=by
  conv=>arg 2;whnf
  have HR:=Lib.hid hr
  have d0:decide (p < s.length) = false:=decide_eq_false (by omega)
  have d1:decide ((p:Int) < (s.length:Int)) = false:=decide_eq_false (by omega)
  have HL:=Lib.hid hlen
  clear hr hlen hs
  go_wp2_with fail
  refine .inr ⟨rfl,?_⟩
  unfold WI9
  refine ⟨_,_,_,_,_,_,_,_,_,_,_,_,_,_,_,_,_,_,_,_,_,_,_,_,_,_,_,_,_,_,_,_,_,_,_,_,_,_,_,_,_,_,_,_,_,_,_,_,_,_,_,_,_,_,_,_,_,_,_,_,_,_,_,_,_,_,_,_,_,_,_,_,_,_,_,_,_,_,_,_,_,_,_,_,_,_,_,_,_,_,_,_,_,_,_,_,_,_,_,_,_,_,_,_,_,_,_,_,_,_,_,_,_,_,_,_,_,_,_,_,_,_,_,_,_,_,_,_,_,_,_,_,_,_,_,_,_,_,_,_,_,_,_,_,_,_,_,_,_,_,_,_,_,_,_,_,_,_,_,_,_,_,_,_,_,_,_,_,_,_,_,_,_,_,_,_,_,_,_,_,_,_,_,_,_,_,_,_,_,_,_,_,_,_,_,_,_,_,_,_,_,_,_,_,_,_,_,_,_,_,_,_,_,_,_,_,⟨p,toks,v,HL.out,rfl,HR.out⟩,rfl⟩
set_option maxRecDepth 1000000 in
set_option maxHeartbeats 8000000 in
theorem case_blank (s:List UInt8) (en:Bool) (w0 wr:World) (p:Nat) (toks:List Tok) (v:Value) (Uh Ui Uj Uk Ul Um Un Uo Up Uq Ur Us Ut Uu Uv Uw Ux Uy Uz UA UB UC UD UE UF UG UH UI UJ UK UL UM UN UO UP UQ UR US UT UU UV UW UX UY UZ U0 U1 U2 U3 U4 U5 U6 U7 U8 U9 Va Vb Vc Vd Ve Vf Vg Vh Vi Vj Vk Vl Vm Vn Vo Vp Vq Vr Vs Vt Vu Vv Vw Vx Vy Vz VA VB VC VD VE VF VG VH VI VJ VK VL VM VN VO VP VQ VR VS VT VU VV VW VX VY VZ V0 V1 V2 V3 V4 V5 V6 V7 V8 V9 Wa Wb Wc Wd We Wf Wg Wh Wi Wj Wk Wl Wm Wn Wo Wp Wq Wr Ws Wt Wu Wv Ww Wx Wy Wz WA WB WC WD WE WF WG WH WI WJ WK WL WM WN WO WP WQ WR WS WT WU WV WW WX WY WZ W0 W1 W2 W3 W4 W5 W6 W7 W8 W9 Xa Xb Xc Xd Xe Xf Xg Xh Xi Xj Xk Xl Xm Xn Xo Xp Xq Xr Xs Xt Xu Xv Xw Xx Xy Xz XA XB XC XD XE XF XG XH XI XJ:Value) (Q0:Exit → Act → World → Prop) (hs:s.length ≤ 1000000000000) (hp:p < s.length) (hr:R9 s en w0 p toks v wr)
    (hb:blankB (s.getD p 0) = true) (hQ:∀ x a w',RD9 s en w0 x a w' → Q0 x a w'):Code.wp Tryz.prog body9 (Exit.then (fun a' w''=>WI9 s en w0 (fun _=>True) a' w'' ∧ mu9 s a' < mu9 s ⟨#[.string ⟨s.toArray⟩,.bool en,undef,undef,.pointer (some ⟨w0.heap.size,0,none⟩),.pointer (some ⟨w0.heap.size + 1,0,none⟩),.int .i64 (p:Nat),Uh,Ui,Uj,Uk,Ul,Um,Un,Uo,Up,Uq,Ur,Us,Ut,Uu,Uv,Uw,Ux,Uy,Uz,UA,UB,UC,UD,UE,UF,UG,UH,UI,UJ,UK,UL,UM,UN,UO,UP,UQ,UR,US,UT,UU,UV,UW,UX,UY,UZ,U0,U1,U2,U3,U4,U5,U6,U7,U8,U9,Va,Vb,Vc,Vd,Ve,Vf,Vg,Vh,Vi,Vj,Vk,Vl,Vm,Vn,Vo,Vp,Vq,Vr,Vs,Vt,Vu,Vv,Vw,Vx,Vy,Vz,VA,VB,VC,VD,VE,VF,VG,VH,VI,VJ,VK,VL,VM,VN,VO,VP,VQ,VR,VS,VT,VU,VV,VW,VX,VY,VZ,V0,V1,V2,V3,V4,V5,V6,V7,V8,V9,Wa,Wb,Wc,Wd,We,Wf,Wg,Wh,Wi,Wj,Wk,Wl,Wm,Wn,Wo,Wp,Wq,Wr,Ws,Wt,Wu,Wv,Ww,Wx,Wy,Wz,WA,WB,WC,WD,WE,WF,WG,WH,WI,WJ,WK,WL,WM,WN,WO,WP,WQ,WR,WS,WT,WU,WV,WW,WX,WY,WZ,W0,W1,W2,W3,W4,W5,W6,W7,W8,W9,Xa,Xb,Xc,Xd,Xe,Xf,Xg,Xh,Xi,Xj,Xk,Xl,Xm,Xn,Xo,Xp,Xq,Xr,Xs,Xt,Xu,Xv,Xw,Xx,Xy,Xz,XA,XB,XC,XD,XE,XF,XG,XH,XI,XJ,undef],[]⟩) Q0) ⟨#[.string ⟨s.toArray⟩,.bool en,undef,undef,.pointer (some ⟨w0.heap.size,0,none⟩),.pointer (some ⟨w0.heap.size + 1,0,none⟩),.int .i64 (p:Nat),Uh,Ui,Uj,Uk,Ul,Um,Un,Uo,Up,Uq,Ur,Us,Ut,Uu,Uv,Uw,Ux,Uy,Uz,UA,UB,UC,UD,UE,UF,UG,UH,UI,UJ,UK,UL,UM,UN,UO,UP,UQ,UR,US,UT,UU,UV,UW,UX,UY,UZ,U0,U1,U2,U3,U4,U5,U6,U7,U8,U9,Va,Vb,Vc,Vd,Ve,Vf,Vg,Vh,Vi,Vj,Vk,Vl,Vm,Vn,Vo,Vp,Vq,Vr,Vs,Vt,Vu,Vv,Vw,Vx,Vy,Vz,VA,VB,VC,VD,VE,VF,VG,VH,VI,VJ,VK,VL,VM,VN,VO,VP,VQ,VR,VS,VT,VU,VV,VW,VX,VY,VZ,V0,V1,V2,V3,V4,V5,V6,V7,V8,V9,Wa,Wb,Wc,Wd,We,Wf,Wg,Wh,Wi,Wj,Wk,Wl,Wm,Wn,Wo,Wp,Wq,Wr,Ws,Wt,Wu,Wv,Ww,Wx,Wy,Wz,WA,WB,WC,WD,WE,WF,WG,WH,WI,WJ,WK,WL,WM,WN,WO,WP,WQ,WR,WS,WT,WU,WV,WW,WX,WY,WZ,W0,W1,W2,W3,W4,W5,W6,W7,W8,W9,Xa,Xb,Xc,Xd,Xe,Xf,Xg,Xh,Xi,Xj,Xk,Xl,Xm,Xn,Xo,Xp,Xq,Xr,Xs,Xt,Xu,Xv,Xw,Xx,Xy,Xz,XA,XB,XC,XD,XE,XF,XG,XH,XI,XJ,undef],[]⟩ wr:=by
  conv=>arg 2;whnf
  obtain ⟨c,hc⟩:∃ c,s[p] = c:=⟨_,rfl⟩
  have hget:=get_c s p c hp hc
  have hpI:(p:Int) < (s.length:Int):=by omega
  have hgd:s.getD p 0 = c:=by rw [getD_at hp,hc]
  have d0:decide (p < s.length) = true:=decide_eq_true hp
  have d1:decide ((p:Int) < (s.length:Int)) = true:=decide_eq_true hpI
  have HR:=Lib.hid hr
  have HP:=Lib.hid hp
  have hit:item flP s en p = .skip:=by unfold item;rw [if_pos hb]
  have h2:rdF flP s en 0 = (rdF flP s en (p + 1)).pre toks:=by rw [hr.2.1,rdF_skip hp hit]
  have HR2:Hid (R9 s en w0 (p + 1) toks v wr):=Lib.hid ⟨hp,h2,by have:=hr.2.2.1;omega,hr.2.2.2⟩
  rw [hgd] at hb
  have HBL:=Lib.hid (fun W=>rblank_any c W)
  rw [hb] at HBL
  have hpb:(p:Int) ≤ 1000000000000:=by omega
  clear hr h2 hit hb hgd hc hs
  go_wp2_with fail
  refine (HBL.out _).mono ?_
  rintro e w1 ⟨rfl,rfl⟩
  go_wp2_with fail
  refine ⟨?_,by simp [mu9,intOf];omega⟩
  unfold WI9
  refine ⟨_,_,_,_,_,_,_,_,_,_,_,_,_,_,_,_,_,_,_,_,_,_,_,_,_,_,_,_,_,_,_,_,_,_,_,_,_,_,_,_,_,_,_,_,_,_,_,_,_,_,_,_,_,_,_,_,_,_,_,_,_,_,_,_,_,_,_,_,_,_,_,_,_,_,_,_,_,_,_,_,_,_,_,_,_,_,_,_,_,_,_,_,_,_,_,_,_,_,_,_,_,_,_,_,_,_,_,_,_,_,_,_,_,_,_,_,_,_,_,_,_,_,_,_,_,_,_,_,_,_,_,_,_,_,_,_,_,_,_,_,_,_,_,_,_,_,_,_,_,_,_,_,_,_,_,_,_,_,_,_,_,_,_,_,_,_,_,_,_,_,_,_,_,_,_,_,_,_,_,_,_,_,_,_,_,_,_,_,_,_,_,_,_,_,_,_,_,_,_,_,_,_,_,_,_,_,_,_,_,_,_,_,_,_,_,_,⟨p + 1,toks,v,trivial,by go_num,HR2.out⟩,rfl⟩
end Go.Proofs.YtgmholdkdppbmaaGreatDoor.Lx

namespace Go.Proofs.YtgmholdkdppbmaaGreatDoor.Lx
open Go.RowKit Go.Shelf
attribute [local go_sem ↓] Go.wp_at_zero Go.wp_at_succ
attribute [local go_sem] SGives_value SGives_skip SGives_enter CGives_value CGives_skip CGives_enter MGives_value MGives_skip MGives_enter
theorem run_cutStr (s:List UInt8) (p q:Nat) (h:p ≤ q) (hq:q ≤ s.length) (w:World) :
    (Instr.sliceAt 9 (.string ⟨s.toArray⟩) (some (.int .i64 (p:Nat))) (some (.int .i64 (q:Nat))) none).run Tryz.prog w = .ok (.string ((⟨s.toArray⟩:ByteArray).extract p q)) w:=by
  have h1:(0:Int) ≤ (p:Int):=by omega
  have h2:(0:Int) ≤ (q:Int):=by omega
  have h3:(p:Int) ≤ (q:Int):=by omega
  have h4:(q:Int) ≤ (s.length:Int):=by omega
  have hz:((⟨s.toArray⟩:ByteArray).size) = s.length:=rfl
  simp [go_sem,Instr.slice,Instr.sliceBounds,h,hq,hz]
theorem own_below9 {w w':World} {base n size:Nat} {e:TypeId} {v:Value} {xs:List Value} (h:w.ownsRow base e size v n xs) (hb:Below w.heap.size w w'):w'.ownsRow base e size v n xs:=own_keep h (fun k hk=>hb.block k (h.lt k hk).2)
theorem grown_below9 {W w2 w3:World} {row:Option Nat} (hg:W.grownBy w2 row) (hb:Below w2.heap.size w2 w3):W.grownBy w3 row :=
  ⟨hb.os.trans hg.os,hb.tape.trans hg.tape,hb.output.trans hg.output,Nat.le_trans hg.size hb.size,fun k hk hne=>(hb.block k (Nat.lt_of_lt_of_le hk hg.size)).trans (hg.block k hk hne)⟩
theorem r9_below {s:List UInt8} {en:Bool} {w0 wr W:World} {p:Nat} {toks:List Tok} {v:Value} (h:R9 s en w0 p toks v wr) (hb:Below wr.heap.size wr W):R9 s en w0 p toks v W:=by
  obtain ⟨h1,h2,h3,h4,h5,h6,h7⟩:=h
  exact ⟨h1,h2,h3,own_below9 h4 hb,h5.below hb h5.lt,h6.below hb h6.lt,h7.trans (hb.mono h7.size)⟩
theorem app_tok9 {w:World} {base n g0 c0:Nat} {v:Value} {ts cs:List Value} (hown:w.ownsRow base 60 5 v n ts) (hl:cs.length = 5) (h1:∀ u ∈ cs,u.oneCell' = true) (hc:Blk w g0 60 cs.toArray) (hn:n < 1407374883553) (hbase:base ≤ w.heap.size) :
    ∃ g cap w',(Builtin.append_ #[29,29] 29 #[v,.slice (some ⟨g0,0,none⟩) 1 c0]).run Tryz.prog w = .ok (.slice (some ⟨g,0,none⟩) (n + 1) cap) w' ∧ w'.ownsRow base 60 5 (.slice (some ⟨g,0,none⟩) (n + 1) cap) (n + 1) (ts ++ cs) ∧ w.grownBy w' v.ownBlock:=by
  obtain ⟨i,hi,hz,hsize,hby⟩:=info_parts info_tok9
  obtain ⟨v',w',hr,ho,hg,_,_⟩:=run_append_own_at (P:=Tryz.prog) (w:=w) base 29 29 60 i _ 5 48 Tryz.underlying29 hi hz hsize hby rfl (by omega) v n ts hown ⟨g0,0,none⟩ 1 c0 cs hl (fun j u hj=>by
    have ha:(⟨g0,0,none⟩:Addr).add j = ⟨g0,j,none⟩:=by unfold Addr.add;split <;> simp_all
    rw [ha,hc.cell]
    simpa using hj) h1 (by unfold maxLen;omega) (by omega) hbase
  obtain ⟨g,cap,rfl,_⟩:=ho.form (by omega)
  exact ⟨g,cap,w',hr,ho,hg⟩
theorem exec_append {P:Program} {ρ:Operand → Value} {o:Oper} {t:TypeId} (s x:Operand) (ho:o.op = .call { callee:=.builtin .append,args:=#[s,x],argTypes:=#[t,t] }) {w w':World} {v:Value} (hr:(Builtin.append_ #[t,t] o.type #[ρ s,ρ x]).run P w = .ok v w'):(execOp ρ o).run P w = .ok (.value v) w':=by
  unfold execOp
  simp only [ho,resolve,invoke,builtin,Sem.run_bind,Sem.run_pure,Result.andThen_ok,List.map_toArray,List.map_cons,List.map_nil,hr]
theorem mgives_of {P:Program} {K:Value → World → Prop} {r:Result Next} {v:Value} {w':World} (h:r = .ok (.value v) w') (k:K v w'):MGives P K r:=by rw [h];exact k
set_option maxRecDepth 1000000 in
set_option maxHeartbeats 8000000 in
theorem case_mark (s:List UInt8) (en:Bool) (w0 wr:World) (p:Nat) (toks:List Tok) (v:Value) (Uh Ui Uj Uk Ul Um Un Uo Up Uq Ur Us Ut Uu Uv Uw Ux Uy Uz UA UB UC UD UE UF UG UH UI UJ UK UL UM UN UO UP UQ UR US UT UU UV UW UX UY UZ U0 U1 U2 U3 U4 U5 U6 U7 U8 U9 Va Vb Vc Vd Ve Vf Vg Vh Vi Vj Vk Vl Vm Vn Vo Vp Vq Vr Vs Vt Vu Vv Vw Vx Vy Vz VA VB VC VD VE VF VG VH VI VJ VK VL VM VN VO VP VQ VR VS VT VU VV VW VX VY VZ V0 V1 V2 V3 V4 V5 V6 V7 V8 V9 Wa Wb Wc Wd We Wf Wg Wh Wi Wj Wk Wl Wm Wn Wo Wp Wq Wr Ws Wt Wu Wv Ww Wx Wy Wz WA WB WC WD WE WF WG WH WI WJ WK WL WM WN WO WP WQ WR WS WT WU WV WW WX WY WZ W0 W1 W2 W3 W4 W5 W6 W7 W8 W9 Xa Xb Xc Xd Xe Xf Xg Xh Xi Xj Xk Xl Xm Xn Xo Xp Xq Xr Xs Xt Xu Xv Xw Xx Xy Xz XA XB XC XD XE XF XG XH XI XJ:Value) (Q0:Exit → Act → World → Prop) (hs:s.length ≤ 1000000000000) (hp:p < s.length) (hr:R9 s en w0 p toks v wr)
    (hb:blankB (s.getD p 0) = false) (hm:markB (s.getD p 0) = true) (hQ:∀ x a w',RD9 s en w0 x a w' → Q0 x a w'):Code.wp Tryz.prog body9 (Exit.then (fun a' w''=>WI9 s en w0 (fun _=>True) a' w'' ∧ mu9 s a' < mu9 s ⟨#[.string ⟨s.toArray⟩,.bool en,undef,undef,.pointer (some ⟨w0.heap.size,0,none⟩),.pointer (some ⟨w0.heap.size + 1,0,none⟩),.int .i64 (p:Nat),Uh,Ui,Uj,Uk,Ul,Um,Un,Uo,Up,Uq,Ur,Us,Ut,Uu,Uv,Uw,Ux,Uy,Uz,UA,UB,UC,UD,UE,UF,UG,UH,UI,UJ,UK,UL,UM,UN,UO,UP,UQ,UR,US,UT,UU,UV,UW,UX,UY,UZ,U0,U1,U2,U3,U4,U5,U6,U7,U8,U9,Va,Vb,Vc,Vd,Ve,Vf,Vg,Vh,Vi,Vj,Vk,Vl,Vm,Vn,Vo,Vp,Vq,Vr,Vs,Vt,Vu,Vv,Vw,Vx,Vy,Vz,VA,VB,VC,VD,VE,VF,VG,VH,VI,VJ,VK,VL,VM,VN,VO,VP,VQ,VR,VS,VT,VU,VV,VW,VX,VY,VZ,V0,V1,V2,V3,V4,V5,V6,V7,V8,V9,Wa,Wb,Wc,Wd,We,Wf,Wg,Wh,Wi,Wj,Wk,Wl,Wm,Wn,Wo,Wp,Wq,Wr,Ws,Wt,Wu,Wv,Ww,Wx,Wy,Wz,WA,WB,WC,WD,WE,WF,WG,WH,WI,WJ,WK,WL,WM,WN,WO,WP,WQ,WR,WS,WT,WU,WV,WW,WX,WY,WZ,W0,W1,W2,W3,W4,W5,W6,W7,W8,W9,Xa,Xb,Xc,Xd,Xe,Xf,Xg,Xh,Xi,Xj,Xk,Xl,Xm,Xn,Xo,Xp,Xq,Xr,Xs,Xt,Xu,Xv,Xw,Xx,Xy,Xz,XA,XB,XC,XD,XE,XF,XG,XH,XI,XJ,undef],[]⟩) Q0) ⟨#[.string ⟨s.toArray⟩,.bool en,undef,undef,.pointer (some ⟨w0.heap.size,0,none⟩),.pointer (some ⟨w0.heap.size + 1,0,none⟩),.int .i64 (p:Nat),Uh,Ui,Uj,Uk,Ul,Um,Un,Uo,Up,Uq,Ur,Us,Ut,Uu,Uv,Uw,Ux,Uy,Uz,UA,UB,UC,UD,UE,UF,UG,UH,UI,UJ,UK,UL,UM,UN,UO,UP,UQ,UR,US,UT,UU,UV,UW,UX,UY,UZ,U0,U1,U2,U3,U4,U5,U6,U7,U8,U9,Va,Vb,Vc,Vd,Ve,Vf,Vg,Vh,Vi,Vj,Vk,Vl,Vm,Vn,Vo,Vp,Vq,Vr,Vs,Vt,Vu,Vv,Vw,Vx,Vy,Vz,VA,VB,VC,VD,VE,VF,VG,VH,VI,VJ,VK,VL,VM,VN,VO,VP,VQ,VR,VS,VT,VU,VV,VW,VX,VY,VZ,V0,V1,V2,V3,V4,V5,V6,V7,V8,V9,Wa,Wb,Wc,Wd,We,Wf,Wg,Wh,Wi,Wj,Wk,Wl,Wm,Wn,Wo,Wp,Wq,Wr,Ws,Wt,Wu,Wv,Ww,Wx,Wy,Wz,WA,WB,WC,WD,WE,WF,WG,WH,WI,WJ,WK,WL,WM,WN,WO,WP,WQ,WR,WS,WT,WU,WV,WW,WX,WY,WZ,W0,W1,W2,W3,W4,W5,W6,W7,W8,W9,Xa,Xb,Xc,Xd,Xe,Xf,Xg,Xh,Xi,Xj,Xk,Xl,Xm,Xn,Xo,Xp,Xq,Xr,Xs,Xt,Xu,Xv,Xw,Xx,Xy,Xz,XA,XB,XC,XD,XE,XF,XG,XH,XI,XJ,undef],[]⟩ wr:=by
  conv=>arg 2;whnf
  obtain ⟨c,hc⟩:∃ c,s[p] = c:=⟨_,rfl⟩
  have hget:=get_c s p c hp hc
  have hpI:(p:Int) < (s.length:Int):=by omega
  have hgd:s.getD p 0 = c:=by rw [getD_at hp,hc]
  have d0:decide (p < s.length) = true:=decide_eq_true hp
  have d1:decide ((p:Int) < (s.length:Int)) = true:=decide_eq_true hpI
  have HP:=Lib.hid hp
  have hit:item flP s en p = .tok ⟨p,1,.mark c⟩ (p + 1):=by unfold item;rw [if_neg (by rw [hb];simp),if_pos hm,hgd]
  have HRD:=Lib.hid (rdF_tok hp hit (by omega))
  rw [hgd] at hb hm
  have HBL:=Lib.hid (fun W=>rblank_any c W)
  rw [hb] at HBL
  have HMK:=Lib.hid (fun W=>rmark_yes c W hm)
  have hpb:(p:Int) ≤ 1000000000000:=by omega
  obtain ⟨q,hq⟩:∃ q,p + 1 = q:=⟨_,rfl⟩
  have hqI:(p:Int) + 1 = (q:Int):=by omega
  have hql:(q:Int) ≤ (s.length:Int):=by omega
  have hiq:(p:Int) ≤ (q:Int):=by omega
  have hext:(⟨s.toArray⟩:ByteArray).extract p q = ⟨#[c]⟩:=by
    rw [ext_cut];unfold cutL
    rw [drop_at hp,hc,show q - p = 1 by omega];rfl
  have HEX:=Lib.hid (fun W=>(run_cutStr s p q (by omega) (by omega) W).trans (by rw [hext]))
  rw [hq] at HRD
  have HQ:=Lib.hid hq
  have HR:=Lib.hid hr
  obtain ⟨h1,h2,h3,h4,h5,h6,h7⟩:=hr
  obtain ⟨A,cc,rfl,_⟩:=own_shape9 h4
  have HO:=Lib.hid h4
  have HB4:=Lib.hid h5
  have HB5:=Lib.hid h6
  have HBE:=Lib.hid h7
  have hlt4:=h5.lt
  have hlt5:=h6.lt
  have hsz:=h7.size
  clear h1 h2 h4 h5 h6 h7
  have HTL:=Lib.hid (show toks.length ≤ 1000000000000 by omega)
  have HSZ:=Lib.hid (show w0.heap.size + 2 ≤ wr.heap.size by omega)
  clear hit hb hm hgd hc hs h3 hq hext
  go_wp2_with fail
  refine (HBL.out _).mono ?_
  rintro e w1 ⟨rfl,rfl⟩
  go_wp2_with fail
  refine (HMK.out _).mono ?_
  rintro e w1 ⟨rfl,rfl⟩
  have hcut:=HEX.out
  have hwq:IntKind.i64.wrap (q:Int) = (q:Int):=IntWalk.i64_in _ (by omega)
  have hcut2:∀ W:World,(Instr.slice 9 (.string ⟨s.toArray⟩) (some (.int .i64 (p:Nat))) (some (.int .i64 (q:Nat))) none).run Tryz.prog W = .ok (.string ⟨#[c]⟩) W:=fun W=>(run_sliceAt_string W _ _ _ _ _ Tryz.underlying9).symm.trans (hcut W)
  go_wp2_with fail
  obtain ⟨S,SD⟩:∃ S:World → Prop,Go.RowKit.Hid (∀ w':World,S w' ↔ Below wr.heap.size wr w'):=⟨_,Lib.hid (fun _=>Iff.rfl)⟩
  have HRB:=Lib.hid (fun (W:World) (hW:Below wr.heap.size wr W)=>r9_below HR.out hW)
  have HRP:=Lib.hid (fun (W w2:World) (v':Value) (hW:Below wr.heap.size wr W) h1 h2=>r9_push (pn:=q) HR.out HRD.out (by have:=HQ.out;omega) (by have:=HQ.out;have:=HP.out;omega) (W:=W) (w2:=w2) (v':=v') hW h1 h2)
  refine wp_region_way (S:=S) (by kernel_rfl) (by kernel_rfl) (fun W W' h hb=>(SD.out _).2 (keepb ((SD.out _).1 h) hb)) ((SD.out _).2 (Below.refl _ wr).drew) ?_
  first
    | (refine Way.no 0 (by rfl) (by kernel_rfl) (by rfl) ?_;simp only [Act.put,List.setIfInBounds_toArray,List.set_cons_zero,List.set_cons_succ])
    | (refine' Way.yes 0 (by rfl) (by kernel_rfl) (by rfl) (fun wS hS=>?_) ?_
       rotate_left
       · have hS':=(SD.out _).1 hS
         have hcl:=(cells5 (HRB.out _ hS').2.2.2.2.2.1).1
         go_simp
         first
           | exact ⟨rfl,Below.refl _ _⟩
       simp only [Act.put,List.setIfInBounds_toArray,List.set_cons_zero,List.set_cons_succ])
  first
    | (refine Way.no 1 (by rfl) (by kernel_rfl) (by rfl) ?_;simp only [Act.put,List.setIfInBounds_toArray,List.set_cons_zero,List.set_cons_succ])
    | (refine' Way.yes 1 (by rfl) (by kernel_rfl) (by rfl) (fun wS hS=>?_) ?_
       rotate_left
       · have hS':=(SD.out _).1 hS
         have hcl:=(cells5 (HRB.out _ hS').2.2.2.2.2.1).1
         go_simp
         first
           | exact ⟨rfl,Below.refl _ _⟩
       simp only [Act.put,List.setIfInBounds_toArray,List.set_cons_zero,List.set_cons_succ])
  first
    | (refine Way.no 2 (by rfl) (by kernel_rfl) (by rfl) ?_;simp only [Act.put,List.setIfInBounds_toArray,List.set_cons_zero,List.set_cons_succ])
    | (refine' Way.yes 2 (by rfl) (by kernel_rfl) (by rfl) (fun wS hS=>?_) ?_
       rotate_left
       · have hS':=(SD.out _).1 hS
         have hcl:=(cells5 (HRB.out _ hS').2.2.2.2.2.1).1
         go_simp
         first
           | exact ⟨rfl,Below.refl _ _⟩
       simp only [Act.put,List.setIfInBounds_toArray,List.set_cons_zero,List.set_cons_succ])
  first
    | (refine Way.no 3 (by rfl) (by kernel_rfl) (by rfl) ?_;simp only [Act.put,List.setIfInBounds_toArray,List.set_cons_zero,List.set_cons_succ])
    | (refine' Way.yes 3 (by rfl) (by kernel_rfl) (by rfl) (fun wS hS=>?_) ?_
       rotate_left
       · have hS':=(SD.out _).1 hS
         have hcl:=(cells5 (HRB.out _ hS').2.2.2.2.2.1).1
         go_simp
         first
           | exact ⟨rfl,Below.refl _ _⟩
       simp only [Act.put,List.setIfInBounds_toArray,List.set_cons_zero,List.set_cons_succ])
  first
    | (refine Way.no 4 (by rfl) (by kernel_rfl) (by rfl) ?_;simp only [Act.put,List.setIfInBounds_toArray,List.set_cons_zero,List.set_cons_succ])
    | (refine' Way.yes 4 (by rfl) (by kernel_rfl) (by rfl) (fun wS hS=>?_) ?_
       rotate_left
       · have hS':=(SD.out _).1 hS
         have hcl:=(cells5 (HRB.out _ hS').2.2.2.2.2.1).1
         go_simp
         first
           | exact ⟨rfl,Below.refl _ _⟩
       simp only [Act.put,List.setIfInBounds_toArray,List.set_cons_zero,List.set_cons_succ])
  first
    | (refine Way.no 5 (by rfl) (by kernel_rfl) (by rfl) ?_;simp only [Act.put,List.setIfInBounds_toArray,List.set_cons_zero,List.set_cons_succ])
    | (refine' Way.yes 5 (by rfl) (by kernel_rfl) (by rfl) (fun wS hS=>?_) ?_
       rotate_left
       · have hS':=(SD.out _).1 hS
         have hcl:=(cells5 (HRB.out _ hS').2.2.2.2.2.1).1
         go_simp
         first
           | exact ⟨rfl,Below.refl _ _⟩
       simp only [Act.put,List.setIfInBounds_toArray,List.set_cons_zero,List.set_cons_succ])
  first
    | (refine Way.no 6 (by rfl) (by kernel_rfl) (by rfl) ?_;simp only [Act.put,List.setIfInBounds_toArray,List.set_cons_zero,List.set_cons_succ])
    | (refine' Way.yes 6 (by rfl) (by kernel_rfl) (by rfl) (fun wS hS=>?_) ?_
       rotate_left
       · have hS':=(SD.out _).1 hS
         have hcl:=(cells5 (HRB.out _ hS').2.2.2.2.2.1).1
         go_simp
         first
           | exact ⟨rfl,Below.refl _ _⟩
       simp only [Act.put,List.setIfInBounds_toArray,List.set_cons_zero,List.set_cons_succ])
  first
    | (refine Way.no 7 (by rfl) (by kernel_rfl) (by rfl) ?_;simp only [Act.put,List.setIfInBounds_toArray,List.set_cons_zero,List.set_cons_succ])
    | (refine' Way.yes 7 (by rfl) (by kernel_rfl) (by rfl) (fun wS hS=>?_) ?_
       rotate_left
       · have hS':=(SD.out _).1 hS
         have hcl:=(cells5 (HRB.out _ hS').2.2.2.2.2.1).1
         go_simp
         first
           | exact ⟨rfl,Below.refl _ _⟩
       simp only [Act.put,List.setIfInBounds_toArray,List.set_cons_zero,List.set_cons_succ])
  first
    | (refine Way.no 8 (by rfl) (by kernel_rfl) (by rfl) ?_;simp only [Act.put,List.setIfInBounds_toArray,List.set_cons_zero,List.set_cons_succ])
    | (refine' Way.yes 8 (by rfl) (by kernel_rfl) (by rfl) (fun wS hS=>?_) ?_
       rotate_left
       · have hS':=(SD.out _).1 hS
         have hcl:=(cells5 (HRB.out _ hS').2.2.2.2.2.1).1
         go_simp
         first
           | exact ⟨rfl,Below.refl _ _⟩
       simp only [Act.put,List.setIfInBounds_toArray,List.set_cons_zero,List.set_cons_succ])
  refine Way.move 9 (by rfl) (by kernel_rfl) (by rfl) (fun wA hS=>?_)
  have hA:=(SD.out _).1 hS
  go_simp
  have hgA:=Blk.new wA 60 #[.int .i64 1,.int .i64 (p:Nat),.int .i64 1,.string ⟨#[c]⟩,.int .u64 0]
  have hA2:=hA.alloc hA.size (.cells #[.int .i64 1,.int .i64 (p:Nat),.int .i64 1,.string ⟨#[c]⟩,.int .u64 0] 60)
  obtain ⟨S2,SE⟩:∃ S2:World → Prop,Go.RowKit.Hid (∀ w':World,S2 w' ↔ Below wr.heap.size wr w' ∧ Blk w' wA.heap.size 60 #[.int .i64 1,.int .i64 (p:Nat),.int .i64 1,.string ⟨#[c]⟩,.int .u64 0]):=⟨_,Lib.hid (fun _=>Iff.rfl)⟩
  refine Moved.keep S2 (fun W W' h hb=>(SE.out _).2 ⟨keepb ((SE.out _).1 h).1 hb,((SE.out _).1 h).2.below hb ((SE.out _).1 h).2.lt⟩) (fun x h=>(SD.out _).2 ((SE.out _).1 h).1) ((SE.out _).2 ⟨hA2,hgA⟩) ?_
  simp only [Act.put,List.setIfInBounds_toArray,List.set_cons_zero,List.set_cons_succ]
  clear hA2 hgA hS
  refine Way.move 10 (by rfl) (by kernel_rfl) (by rfl) (fun wB hS=>?_)
  have hB:=(SE.out _).1 hS
  obtain ⟨g,cap,wC,hrun,hown,hgr⟩:=app_tok9 (c0:=1) (HRB.out _ hB.1).2.2.2.1 rfl (by simp [Value.oneCell']) hB.2 (by have:=HTL.out;omega) (by have:=hB.1.size;have:=HSZ.out;omega)
  refine mgives_of (exec_append (.tmp 31) (.tmp 39) rfl hrun) ?_
  obtain ⟨S3,SF⟩:∃ S3:World → Prop,Go.RowKit.Hid (∀ w':World,S3 w' ↔ Below wC.heap.size wC w'):=⟨_,Lib.hid (fun _=>Iff.rfl)⟩
  have HOWN:=Lib.hid hown
  have HGR:=Lib.hid hgr
  have HBB:=Lib.hid hB.1
  refine Moved.turn S3 (fun W W' h hb=>(SF.out _).2 (keepb ((SF.out _).1 h) hb)) (by kernel_rfl) ((SF.out _).2 (Below.refl _ _)) ?_
  simp only [Act.put,List.setIfInBounds_toArray,List.set_cons_zero,List.set_cons_succ]
  clear hS hB hrun hown hgr
  first
    | (refine Way.no 11 (by rfl) (by kernel_rfl) (by rfl) ?_;simp only [Act.put,List.setIfInBounds_toArray,List.set_cons_zero,List.set_cons_succ])
    | (refine' Way.yes 11 (by rfl) (by kernel_rfl) (by rfl) (fun wS hS=>?_) ?_
       rotate_left
       · have hS':=(SF.out _).1 hS
         go_simp
         first
           | exact ⟨rfl,Below.refl _ _⟩
       simp only [Act.put,List.setIfInBounds_toArray,List.set_cons_zero,List.set_cons_succ])
  refine Way.move 12 (by rfl) (by kernel_rfl) (by rfl) (fun wD hS=>?_)
  have hD:=(SF.out _).1 hS
  have hown2:=own_below9 HOWN.out hD
  have hgr2:=grown_below9 HGR.out hD
  have hb2:=((HRB.out _ HBB.out).2.2.2.2.2.1).grown hgr2 (fun hk=>by have:=((HRB.out _ HBB.out).2.2.2.1.lt _ hk.symm).1;omega)
  have k0:=(cells5 hb2).1
  have kf:=hb2.frozen 0
  have HNX:=Lib.hid (HRP.out _ _ _ HBB.out hown2 hgr2)
  clear hown2 hgr2 hb2 hD hS
  go_simp
  obtain ⟨S4,SG⟩:∃ S4:World → Prop,Go.RowKit.Hid (∀ w':World,S4 w' ↔ R9 s en w0 q (toks ++ [⟨p,1,.mark c⟩]) (.slice (some ⟨g,0,none⟩) (toks.length + 1) cap) w'):=⟨_,Lib.hid (fun _=>Iff.rfl)⟩
  refine Moved.turn S4 (fun W W' h hb=>(SG.out _).2 (r9_below ((SG.out _).1 h) hb)) (by kernel_rfl) ((SG.out _).2 HNX.out) ?_
  try simp only [Act.put,List.setIfInBounds_toArray,List.set_cons_zero,List.set_cons_succ]
  refine Way.done (by kernel_rfl) (fun wE hS=>?_)
  have HNE:=Lib.hid ((SG.out _).1 hS)
  clear hS k0 kf HNX HOWN HGR HBB HRP HRB
  go_wp2_with fail
  refine ⟨?_,by simp [mu9,intOf];omega⟩
  unfold WI9
  refine ⟨_,_,_,_,_,_,_,_,_,_,_,_,_,_,_,_,_,_,_,_,_,_,_,_,_,_,_,_,_,_,_,_,_,_,_,_,_,_,_,_,_,_,_,_,_,_,_,_,_,_,_,_,_,_,_,_,_,_,_,_,_,_,_,_,_,_,_,_,_,_,_,_,_,_,_,_,_,_,_,_,_,_,_,_,_,_,_,_,_,_,_,_,_,_,_,_,_,_,_,_,_,_,_,_,_,_,_,_,_,_,_,_,_,_,_,_,_,_,_,_,_,_,_,_,_,_,_,_,_,_,_,_,_,_,_,_,_,_,_,_,_,_,_,_,_,_,_,_,_,_,_,_,_,_,_,_,_,_,_,_,_,_,_,_,_,_,_,_,_,_,_,_,_,_,_,_,_,_,_,_,_,_,_,_,_,_,_,_,_,_,_,_,_,_,_,_,_,_,_,_,_,_,_,_,_,_,_,_,_,_,_,_,_,_,_,_,⟨q,toks ++ [⟨p,1,.mark c⟩],_,trivial,rfl,HNE.out⟩,rfl⟩
end Go.Proofs.YtgmholdkdppbmaaGreatDoor.Lx

namespace Go.Proofs.YtgmholdkdppbmaaGreatDoor.Lx
open Go.RowKit Go.Shelf
attribute [local go_sem ↓] Go.wp_at_zero Go.wp_at_succ
theorem r9_ret {s:List UInt8} {en:Bool} {w0 wr W:World} {p no pos f h:Nat} {toks:List Tok} {v:Value} (hr:R9 s en w0 p toks v wr) (hb:Below wr.heap.size wr W) (hp:rdF flP s en p = ⟨[],no,pos,f,h⟩) :
    RdE s en w0 (set5 W w0.heap.size v (.int .i64 (no:Nat)) (.int .i64 (pos:Nat)) (.int .i64 (f:Nat)) (.int .i64 (h:Nat))):=by
  obtain ⟨h1,h2,h3,h4,h5,h6,h7⟩:=r9_below hr hb
  exact rd_of h5 h4 h7 h2 hp
theorem r9_cells {s:List UInt8} {en:Bool} {w0 wr W:World} {p:Nat} {toks:List Tok} {v:Value} (hr:R9 s en w0 p toks v wr) (hb:Below wr.heap.size wr W) :
    (W.cell? ⟨w0.heap.size,0,none⟩ = some (.slice none 0 0) ∧ W.cell? ⟨w0.heap.size,1,none⟩ = some (.int .i64 0) ∧ W.cell? ⟨w0.heap.size,2,none⟩ = some (.int .i64 0) ∧ W.cell? ⟨w0.heap.size,3,none⟩ = some (.int .i64 0) ∧ W.cell? ⟨w0.heap.size,4,none⟩ = some (.int .i64 0)) ∧
    (W.cell? ⟨w0.heap.size + 1,0,none⟩ = some v ∧ W.cell? ⟨w0.heap.size + 1,1,none⟩ = some (.int .i64 0) ∧ W.cell? ⟨w0.heap.size + 1,2,none⟩ = some (.int .i64 0) ∧ W.cell? ⟨w0.heap.size + 1,3,none⟩ = some (.int .i64 0) ∧ W.cell? ⟨w0.heap.size + 1,4,none⟩ = some (.int .i64 0)) ∧
    (W.frozen? ⟨w0.heap.size,0,none⟩ = false ∧ W.frozen? ⟨w0.heap.size,1,none⟩ = false ∧ W.frozen? ⟨w0.heap.size,2,none⟩ = false ∧ W.frozen? ⟨w0.heap.size,3,none⟩ = false ∧ W.frozen? ⟨w0.heap.size,4,none⟩ = false) ∧
    (W.frozen? ⟨w0.heap.size + 1,0,none⟩ = false ∧ W.frozen? ⟨w0.heap.size + 1,1,none⟩ = false ∧ W.frozen? ⟨w0.heap.size + 1,2,none⟩ = false ∧ W.frozen? ⟨w0.heap.size + 1,3,none⟩ = false ∧ W.frozen? ⟨w0.heap.size + 1,4,none⟩ = false):=by
  obtain ⟨h1,h2,h3,h4,h5,h6,h7⟩:=r9_below hr hb
  exact ⟨cells5 h5,cells5 h6,⟨h5.frozen 0,h5.frozen 1,h5.frozen 2,h5.frozen 3,h5.frozen 4⟩,⟨h6.frozen 0,h6.frozen 1,h6.frozen 2,h6.frozen 3,h6.frozen 4⟩⟩
theorem u8_ne {c:UInt8} {k:Nat} (hk:k < 256) (h:c ≠ UInt8.ofNat k):((c.toNat:Int) == (k:Int)) = false:=by
  have:c.toNat ≠ k:=fun e=>h (by rw [← e];simp)
  simp;omega
set_option maxRecDepth 1000000 in
set_option maxHeartbeats 8000000 in
theorem case_other (s:List UInt8) (en:Bool) (w0 wr:World) (p:Nat) (toks:List Tok) (v:Value) (Uh Ui Uj Uk Ul Um Un Uo Up Uq Ur Us Ut Uu Uv Uw Ux Uy Uz UA UB UC UD UE UF UG UH UI UJ UK UL UM UN UO UP UQ UR US UT UU UV UW UX UY UZ U0 U1 U2 U3 U4 U5 U6 U7 U8 U9 Va Vb Vc Vd Ve Vf Vg Vh Vi Vj Vk Vl Vm Vn Vo Vp Vq Vr Vs Vt Vu Vv Vw Vx Vy Vz VA VB VC VD VE VF VG VH VI VJ VK VL VM VN VO VP VQ VR VS VT VU VV VW VX VY VZ V0 V1 V2 V3 V4 V5 V6 V7 V8 V9 Wa Wb Wc Wd We Wf Wg Wh Wi Wj Wk Wl Wm Wn Wo Wp Wq Wr Ws Wt Wu Wv Ww Wx Wy Wz WA WB WC WD WE WF WG WH WI WJ WK WL WM WN WO WP WQ WR WS WT WU WV WW WX WY WZ W0 W1 W2 W3 W4 W5 W6 W7 W8 W9 Xa Xb Xc Xd Xe Xf Xg Xh Xi Xj Xk Xl Xm Xn Xo Xp Xq Xr Xs Xt Xu Xv Xw Xx Xy Xz XA XB XC XD XE XF XG XH XI XJ:Value) (Q0:Exit → Act → World → Prop) (hs:s.length ≤ 1000000000000) (hp:p < s.length) (hr:R9 s en w0 p toks v wr)
    (hb:blankB (s.getD p 0) = false) (hm:markB (s.getD p 0) = false) (hw:wordOf (s.getD p 0) = []) (hq:s.getD p 0 ≠ 34) (hd1:s.getD p 0 ≠ 45) (hd2:isD (s.getD p 0) = false) (hQ:∀ x a w',RD9 s en w0 x a w' → Q0 x a w'):Code.wp Tryz.prog body9 (Exit.then (fun a' w''=>WI9 s en w0 (fun _=>True) a' w'' ∧ mu9 s a' < mu9 s ⟨#[.string ⟨s.toArray⟩,.bool en,undef,undef,.pointer (some ⟨w0.heap.size,0,none⟩),.pointer (some ⟨w0.heap.size + 1,0,none⟩),.int .i64 (p:Nat),Uh,Ui,Uj,Uk,Ul,Um,Un,Uo,Up,Uq,Ur,Us,Ut,Uu,Uv,Uw,Ux,Uy,Uz,UA,UB,UC,UD,UE,UF,UG,UH,UI,UJ,UK,UL,UM,UN,UO,UP,UQ,UR,US,UT,UU,UV,UW,UX,UY,UZ,U0,U1,U2,U3,U4,U5,U6,U7,U8,U9,Va,Vb,Vc,Vd,Ve,Vf,Vg,Vh,Vi,Vj,Vk,Vl,Vm,Vn,Vo,Vp,Vq,Vr,Vs,Vt,Vu,Vv,Vw,Vx,Vy,Vz,VA,VB,VC,VD,VE,VF,VG,VH,VI,VJ,VK,VL,VM,VN,VO,VP,VQ,VR,VS,VT,VU,VV,VW,VX,VY,VZ,V0,V1,V2,V3,V4,V5,V6,V7,V8,V9,Wa,Wb,Wc,Wd,We,Wf,Wg,Wh,Wi,Wj,Wk,Wl,Wm,Wn,Wo,Wp,Wq,Wr,Ws,Wt,Wu,Wv,Ww,Wx,Wy,Wz,WA,WB,WC,WD,WE,WF,WG,WH,WI,WJ,WK,WL,WM,WN,WO,WP,WQ,WR,WS,WT,WU,WV,WW,WX,WY,WZ,W0,W1,W2,W3,W4,W5,W6,W7,W8,W9,Xa,Xb,Xc,Xd,Xe,Xf,Xg,Xh,Xi,Xj,Xk,Xl,Xm,Xn,Xo,Xp,Xq,Xr,Xs,Xt,Xu,Xv,Xw,Xx,Xy,Xz,XA,XB,XC,XD,XE,XF,XG,XH,XI,XJ,undef],[]⟩) Q0) ⟨#[.string ⟨s.toArray⟩,.bool en,undef,undef,.pointer (some ⟨w0.heap.size,0,none⟩),.pointer (some ⟨w0.heap.size + 1,0,none⟩),.int .i64 (p:Nat),Uh,Ui,Uj,Uk,Ul,Um,Un,Uo,Up,Uq,Ur,Us,Ut,Uu,Uv,Uw,Ux,Uy,Uz,UA,UB,UC,UD,UE,UF,UG,UH,UI,UJ,UK,UL,UM,UN,UO,UP,UQ,UR,US,UT,UU,UV,UW,UX,UY,UZ,U0,U1,U2,U3,U4,U5,U6,U7,U8,U9,Va,Vb,Vc,Vd,Ve,Vf,Vg,Vh,Vi,Vj,Vk,Vl,Vm,Vn,Vo,Vp,Vq,Vr,Vs,Vt,Vu,Vv,Vw,Vx,Vy,Vz,VA,VB,VC,VD,VE,VF,VG,VH,VI,VJ,VK,VL,VM,VN,VO,VP,VQ,VR,VS,VT,VU,VV,VW,VX,VY,VZ,V0,V1,V2,V3,V4,V5,V6,V7,V8,V9,Wa,Wb,Wc,Wd,We,Wf,Wg,Wh,Wi,Wj,Wk,Wl,Wm,Wn,Wo,Wp,Wq,Wr,Ws,Wt,Wu,Wv,Ww,Wx,Wy,Wz,WA,WB,WC,WD,WE,WF,WG,WH,WI,WJ,WK,WL,WM,WN,WO,WP,WQ,WR,WS,WT,WU,WV,WW,WX,WY,WZ,W0,W1,W2,W3,W4,W5,W6,W7,W8,W9,Xa,Xb,Xc,Xd,Xe,Xf,Xg,Xh,Xi,Xj,Xk,Xl,Xm,Xn,Xo,Xp,Xq,Xr,Xs,Xt,Xu,Xv,Xw,Xx,Xy,Xz,XA,XB,XC,XD,XE,XF,XG,XH,XI,XJ,undef],[]⟩ wr:=by
  conv=>arg 2;whnf
  obtain ⟨c,hc⟩:∃ c,s[p] = c:=⟨_,rfl⟩
  have hget:=get_c s p c hp hc
  have hpI:(p:Int) < (s.length:Int):=by omega
  have hgd:s.getD p 0 = c:=by rw [getD_at hp,hc]
  have d0:decide (p < s.length) = true:=decide_eq_true hp
  have d1:decide ((p:Int) < (s.length:Int)) = true:=decide_eq_true hpI
  have HP:=Lib.hid hp
  have HQ0:=Lib.hid hQ
  clear hQ
  have hit:item flP s en p = .bad 94 p p:=by unfold item;rw [if_neg (by rw [hb];simp),if_neg (by rw [hm];simp),if_neg (by rw [hw];simp),if_neg hq,if_pos ⟨hd1,hd2⟩]
  have HRD:=Lib.hid (rdF_bad hp hit)
  rw [hgd] at hb hm hw hq hd1 hd2
  have HBL:=Lib.hid (fun W=>rblank_any c W)
  rw [hb] at HBL
  have HMK:=Lib.hid (fun W=>rmark_no c W hm)
  have HNM:=Lib.hid (fun W=>rname_any c W)
  rw [hw] at HNM
  have HDG:=Lib.hid (fun W=>ldigit_any s p W (by omega) (by omega))
  have hda:dAt s p = false:=by rw [dAt_of (c:=c) (by rw [List.getElem?_eq_getElem hp,hc])];exact hd2
  rw [hda] at HDG
  have q34:((c.toNat:Int) == 34) = false:=u8_ne (k:=34) (by decide) hq
  have q45':((c.toNat:Int) == 45) = false:=u8_ne (k:=45) (by decide) hd1
  have q45:((c.toNat:Int) != 45) = true:=by rw [bne,q45'];rfl
  clear q45'
  have HR:=Lib.hid hr
  have hsl:=hr.2.2.2.2.1.lt
  have hsz:=hr.2.2.2.2.2.2.size
  obtain ⟨A,cc,rfl,_⟩:=own_shape9 hr.2.2.2.1
  have hTL:toks.length ≤ s.length:=by have:=hr.2.2.1;omega
  have HTL:=Lib.hid (show toks.length ≤ 1000000000000 by omega)
  have HWR:=Lib.hid (fun W=>rwrong9 (.slice A toks.length cc) (.int .i64 0) (.int .i64 0) (.int .i64 0) (.int .i64 0) 94 p W ⟨A,_,cc,rfl⟩)
  have hpb:(p:Int) ≤ 1000000000000:=by omega
  unfold sv at HDG
  clear hit hb hm hgd hc hs hr hw hq hd1 hd2 hda
  go_wp2_with fail
  refine (HBL.out _).mono ?_
  rintro e w1 ⟨rfl,rfl⟩
  go_wp2_with fail
  refine (HMK.out _).mono ?_
  rintro e w1 ⟨rfl,rfl⟩
  go_wp2_with fail
  refine (HNM.out _).mono ?_
  rintro e w1 ⟨rfl,rfl⟩
  go_wp2_with fail
  refine (HDG.out _).mono ?_
  rintro e w1 ⟨rfl,rfl⟩
  obtain ⟨⟨m0,m1,m2,m3,m4⟩,⟨n0,n1,n2,n3,n4⟩,⟨f0,f1,f2,f3,f4⟩,⟨g0,g1,g2,g3,g4⟩⟩:=r9_cells HR.out (Below.refl wr.heap.size wr)
  go_wp2_with fail
  clear m0 m1 m2 m3 m4 n0 n1 n2 n3 n4 f0 f1 f2 f3 f4 g0
  refine (HWR.out _).mono ?_
  rintro e w1 ⟨rfl,hb1⟩
  obtain ⟨⟨m0,m1,m2,m3,m4⟩,⟨n0,n1,n2,n3,n4⟩,⟨f0,f1,f2,f3,f4⟩,⟨g0,g1,g2,g3,g4⟩⟩:=r9_cells HR.out hb1
  go_wp2_with fail
  exact HQ0.out _ _ _ (.inl ⟨rfl,rfl,rfl,r9_ret HR.out hb1 HRD.out⟩)
end Go.Proofs.YtgmholdkdppbmaaGreatDoor.Lx
