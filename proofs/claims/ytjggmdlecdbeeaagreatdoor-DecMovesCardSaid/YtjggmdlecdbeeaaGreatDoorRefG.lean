/- The reference's short: a decimal of at most 801 digits that stands to all floats as the given one. The reference's Against: a bare decimal's magnitude against m times two to the power k. The reference's Floor, Round, To. The reference's Round and To. -/
import Derived.Test.YtjggmdlecdbeeaaGreatDoorRefE
import Derived.Test.YtjggmdlecdbeeaaGreatDoorCalm
import Derived.Test.YtjggmdlecdbeeaaGreatDoorRefF
import Derived.Test.YtjggmdlecdbeeaaGreatDoorRat
namespace Go.Proofs.YtjggmdlecdbeeaaGreatDoor
open Go.RowKit
attribute [local go_sem] SGives_value SGives_skip SGives_enter CGives_value CGives_skip CGives_enter MGives_value MGives_skip MGives_enter
set_option linter.unusedSimpArgs false
set_option linter.unusedVariables false

set_option maxRecDepth 100000 in
set_option maxHeartbeats 2000000 in
theorem rshort_any (d : Dm) (w : World) (hl : d.2.1.length ≤ 140737488353000) (hx : -2000000000000000 ≤ d.2.2 ∧ d.2.2 ≤ 2000000000000000) :
    Calls Tryz.prog 57 #[decV d] w fun e w' => e = .returned (decV (shortD d)) ∧ Below w.heap.size w w' := by
  obtain ⟨g, l, ex⟩ := d
  simp only at hl hx
  obtain ⟨hx1, hx2⟩ := hx
  have HB0 := Lib.hid (((Below.refl _ w).alloc (Nat.le_refl _) (.cells #[.bool g, .string ⟨l.toArray⟩, .int .i64 ex] 33)).alloc (by simp) (.cells #[.bool false, .string ⟨#[]⟩, .int .i64 0] 33))
  have HK0 := Lib.hid ((Blk.new w 33 #[.bool g, .string ⟨l.toArray⟩, .int .i64 ex]).alloc (.cells #[.bool false, .string ⟨#[]⟩, .int .i64 0] 33))
  have HJ0 := Lib.hid (Blk.new2 w 33 #[.bool false, .string ⟨#[]⟩, .int .i64 0] (.cells #[.bool g, .string ⟨l.toArray⟩, .int .i64 ex] 33))
  unfold decV sv
  by_cases h8 : 800 < l.length
  · have HS := Lib.hid (show shortD (g, l, ex) = (g, l.take 800 ++ [49], ex + l.length - 801) from if_pos h8)
    obtain ⟨sd, hsd⟩ : ∃ sd, shortD (g, l, ex) = sd := ⟨_, rfl⟩
    rw [hsd] at HS ⊢
    have t1 : decide ((800 : Int) < (l.length : Int)) = true := decide_eq_true (by omega)
    have t1' : decide (800 < l.length) = true := decide_eq_true h8
    have e1 : IntKind.i64.wrap (ex + (l.length : Int)) = ex + l.length := IntWalk.i64_in _ (by omega)
    have e2 : IntKind.i64.wrap (ex + (l.length : Int) - 801) = ex + l.length - 801 := IntWalk.i64_in _ (by omega)
    have hI : (800 : Int) ≤ (l.length : Int) := by omega
    have hLI : (l.length : Int) ≤ 140737488353000 := by omega
    have hext : (⟨l.toArray⟩ : ByteArray).extract 0 800 = ⟨(l.take 800).toArray⟩ := by rw [ext_cut]; unfold cutL; rw [List.drop_zero]
    have hlen : (l.take 800).length = 800 := by rw [List.length_take]; omega
    have hcat : ((⟨(l.take 800).toArray⟩ : ByteArray) ++ ⟨#[49]⟩) = ⟨(l.take 800 ++ [49]).toArray⟩ := sv_cat (l.take 800) [49]
    clear hsd h8
    generalize l.take 800 = m at *
    go_enter Tryz.func57, Tryz.ntmps57
    go_upto_region 2 with fail
    generalize hW : (w.alloc (.cells #[.bool g, .string ⟨l.toArray⟩, .int .i64 ex] 33)).alloc (.cells #[.bool false, .string ⟨#[]⟩, .int .i64 0] 33) = W at *
    have SDL : w.heap.size ≤ w.heap.size := by first | exact Nat.le_refl _ | omega | (simp; done)
    obtain ⟨S, SD⟩ : ∃ S : World → Prop, Go.RowKit.Hid (∀ w' : World, S w' ↔ (Blk w' w.heap.size 33 #[.bool g, .string ⟨l.toArray⟩, .int .i64 ex] ∧ (∃ u0 u1 u2, Blk w' (w.heap.size + 1) 33 #[u0, u1, u2]) ∧ Below w.heap.size w w')) := ⟨_, Lib.hid (fun _ => Iff.rfl)⟩
    refine wp_region_way (S := S) (by kernel_rfl) (by kernel_rfl) (fun W W' h hb => by obtain ⟨h0, ⟨u1_0, u1_1, u1_2, h1⟩, hB⟩ := (SD.out _).1 h; exact (SD.out _).2 ⟨h0.st hb, ⟨u1_0, u1_1, u1_2, h1.st hb⟩, hB.trans (hb.mono (Nat.le_trans SDL hB.size))⟩) ((SD.out _).2 (⟨HK0.out.drew, ⟨_, _, _, HJ0.out.drew⟩, HB0.out.drew⟩)) ?_
    first
      | (refine Way.no 0 (by rfl) (by kernel_rfl) (by rfl) ?_; simp only [Act.put, List.setIfInBounds_toArray, List.set_cons_zero, List.set_cons_succ])
      | (refine' Way.yes 0 (by rfl) (by kernel_rfl) (by rfl) (fun wS hS => ?_) ?_
         rotate_left
         · have hS' := (SD.out _).1 hS
           obtain ⟨hb0, ⟨u1_0, u1_1, u1_2, hb1⟩, hB⟩ := hS'
           have c0_0 := hb0.cell 0
           have c0_1 := hb0.cell 1
           have c0_2 := hb0.cell 2
           have c1_0 := hb1.cell 0
           have c1_1 := hb1.cell 1
           have c1_2 := hb1.cell 2
           go_simp
           first
             | exact ⟨rfl, Below.refl _ _⟩
         simp only [Act.put, List.setIfInBounds_toArray, List.set_cons_zero, List.set_cons_succ])
    first
      | (refine Way.no 1 (by rfl) (by kernel_rfl) (by rfl) ?_; simp only [Act.put, List.setIfInBounds_toArray, List.set_cons_zero, List.set_cons_succ])
      | (refine' Way.yes 1 (by rfl) (by kernel_rfl) (by rfl) (fun wS hS => ?_) ?_
         rotate_left
         · have hS' := (SD.out _).1 hS
           obtain ⟨hb0, ⟨u1_0, u1_1, u1_2, hb1⟩, hB⟩ := hS'
           have c0_0 := hb0.cell 0
           have c0_1 := hb0.cell 1
           have c0_2 := hb0.cell 2
           have c1_0 := hb1.cell 0
           have c1_1 := hb1.cell 1
           have c1_2 := hb1.cell 2
           go_simp
           first
             | exact ⟨rfl, Below.refl _ _⟩
         simp only [Act.put, List.setIfInBounds_toArray, List.set_cons_zero, List.set_cons_succ])
    first
      | (refine Way.no 2 (by rfl) (by kernel_rfl) (by rfl) ?_; simp only [Act.put, List.setIfInBounds_toArray, List.set_cons_zero, List.set_cons_succ])
      | (refine' Way.yes 2 (by rfl) (by kernel_rfl) (by rfl) (fun wS hS => ?_) ?_
         rotate_left
         · have hS' := (SD.out _).1 hS
           obtain ⟨hb0, ⟨u1_0, u1_1, u1_2, hb1⟩, hB⟩ := hS'
           have c0_0 := hb0.cell 0
           have c0_1 := hb0.cell 1
           have c0_2 := hb0.cell 2
           have c1_0 := hb1.cell 0
           have c1_1 := hb1.cell 1
           have c1_2 := hb1.cell 2
           go_simp
           first
             | exact ⟨rfl, Below.refl _ _⟩
         simp only [Act.put, List.setIfInBounds_toArray, List.set_cons_zero, List.set_cons_succ])
    first
      | (refine Way.no 3 (by rfl) (by kernel_rfl) (by rfl) ?_; simp only [Act.put, List.setIfInBounds_toArray, List.set_cons_zero, List.set_cons_succ])
      | (refine' Way.yes 3 (by rfl) (by kernel_rfl) (by rfl) (fun wS hS => ?_) ?_
         rotate_left
         · have hS' := (SD.out _).1 hS
           obtain ⟨hb0, ⟨u1_0, u1_1, u1_2, hb1⟩, hB⟩ := hS'
           have c0_0 := hb0.cell 0
           have c0_1 := hb0.cell 1
           have c0_2 := hb0.cell 2
           have c1_0 := hb1.cell 0
           have c1_1 := hb1.cell 1
           have c1_2 := hb1.cell 2
           go_simp
           first
             | exact ⟨rfl, Below.refl _ _⟩
         simp only [Act.put, List.setIfInBounds_toArray, List.set_cons_zero, List.set_cons_succ])
    first
      | (refine Way.no 4 (by rfl) (by kernel_rfl) (by rfl) ?_; simp only [Act.put, List.setIfInBounds_toArray, List.set_cons_zero, List.set_cons_succ])
      | (refine' Way.yes 4 (by rfl) (by kernel_rfl) (by rfl) (fun wS hS => ?_) ?_
         rotate_left
         · have hS' := (SD.out _).1 hS
           obtain ⟨hb0, ⟨u1_0, u1_1, u1_2, hb1⟩, hB⟩ := hS'
           have c0_0 := hb0.cell 0
           have c0_1 := hb0.cell 1
           have c0_2 := hb0.cell 2
           have c1_0 := hb1.cell 0
           have c1_1 := hb1.cell 1
           have c1_2 := hb1.cell 2
           go_simp
           first
             | exact ⟨rfl, Below.refl _ _⟩
         simp only [Act.put, List.setIfInBounds_toArray, List.set_cons_zero, List.set_cons_succ])
    first
      | (refine Way.no 5 (by rfl) (by kernel_rfl) (by rfl) ?_; simp only [Act.put, List.setIfInBounds_toArray, List.set_cons_zero, List.set_cons_succ])
      | (refine' Way.yes 5 (by rfl) (by kernel_rfl) (by rfl) (fun wS hS => ?_) ?_
         rotate_left
         · have hS' := (SD.out _).1 hS
           obtain ⟨hb0, ⟨u1_0, u1_1, u1_2, hb1⟩, hB⟩ := hS'
           have c0_0 := hb0.cell 0
           have c0_1 := hb0.cell 1
           have c0_2 := hb0.cell 2
           have c1_0 := hb1.cell 0
           have c1_1 := hb1.cell 1
           have c1_2 := hb1.cell 2
           go_simp
           first
             | exact ⟨rfl, Below.refl _ _⟩
         simp only [Act.put, List.setIfInBounds_toArray, List.set_cons_zero, List.set_cons_succ])
    first
      | (refine Way.no 6 (by rfl) (by kernel_rfl) (by rfl) ?_; simp only [Act.put, List.setIfInBounds_toArray, List.set_cons_zero, List.set_cons_succ])
      | (refine' Way.yes 6 (by rfl) (by kernel_rfl) (by rfl) (fun wS hS => ?_) ?_
         rotate_left
         · have hS' := (SD.out _).1 hS
           obtain ⟨hb0, ⟨u1_0, u1_1, u1_2, hb1⟩, hB⟩ := hS'
           have c0_0 := hb0.cell 0
           have c0_1 := hb0.cell 1
           have c0_2 := hb0.cell 2
           have c1_0 := hb1.cell 0
           have c1_1 := hb1.cell 1
           have c1_2 := hb1.cell 2
           go_simp
           first
             | exact ⟨rfl, Below.refl _ _⟩
         simp only [Act.put, List.setIfInBounds_toArray, List.set_cons_zero, List.set_cons_succ])
    first
      | (refine Way.no 7 (by rfl) (by kernel_rfl) (by rfl) ?_; simp only [Act.put, List.setIfInBounds_toArray, List.set_cons_zero, List.set_cons_succ])
      | (refine' Way.yes 7 (by rfl) (by kernel_rfl) (by rfl) (fun wS hS => ?_) ?_
         rotate_left
         · have hS' := (SD.out _).1 hS
           obtain ⟨hb0, ⟨u1_0, u1_1, u1_2, hb1⟩, hB⟩ := hS'
           have c0_0 := hb0.cell 0
           have c0_1 := hb0.cell 1
           have c0_2 := hb0.cell 2
           have c1_0 := hb1.cell 0
           have c1_1 := hb1.cell 1
           have c1_2 := hb1.cell 2
           go_simp
           first
             | exact ⟨rfl, Below.refl _ _⟩
         simp only [Act.put, List.setIfInBounds_toArray, List.set_cons_zero, List.set_cons_succ])
    first
      | (refine Way.no 8 (by rfl) (by kernel_rfl) (by rfl) ?_; simp only [Act.put, List.setIfInBounds_toArray, List.set_cons_zero, List.set_cons_succ])
      | (refine' Way.yes 8 (by rfl) (by kernel_rfl) (by rfl) (fun wS hS => ?_) ?_
         rotate_left
         · have hS' := (SD.out _).1 hS
           obtain ⟨hb0, ⟨u1_0, u1_1, u1_2, hb1⟩, hB⟩ := hS'
           have c0_0 := hb0.cell 0
           have c0_1 := hb0.cell 1
           have c0_2 := hb0.cell 2
           have c1_0 := hb1.cell 0
           have c1_1 := hb1.cell 1
           have c1_2 := hb1.cell 2
           go_simp
           first
             | exact ⟨rfl, Below.refl _ _⟩
         simp only [Act.put, List.setIfInBounds_toArray, List.set_cons_zero, List.set_cons_succ])
    first
      | (refine Way.no 9 (by rfl) (by kernel_rfl) (by rfl) ?_; simp only [Act.put, List.setIfInBounds_toArray, List.set_cons_zero, List.set_cons_succ])
      | (refine' Way.yes 9 (by rfl) (by kernel_rfl) (by rfl) (fun wS hS => ?_) ?_
         rotate_left
         · have hS' := (SD.out _).1 hS
           obtain ⟨hb0, ⟨u1_0, u1_1, u1_2, hb1⟩, hB⟩ := hS'
           have c0_0 := hb0.cell 0
           have c0_1 := hb0.cell 1
           have c0_2 := hb0.cell 2
           have c1_0 := hb1.cell 0
           have c1_1 := hb1.cell 1
           have c1_2 := hb1.cell 2
           go_simp
           first
             | exact ⟨rfl, Below.refl _ _⟩
         simp only [Act.put, List.setIfInBounds_toArray, List.set_cons_zero, List.set_cons_succ])
    first
      | (refine Way.no 10 (by rfl) (by kernel_rfl) (by rfl) ?_; simp only [Act.put, List.setIfInBounds_toArray, List.set_cons_zero, List.set_cons_succ])
      | (refine' Way.yes 10 (by rfl) (by kernel_rfl) (by rfl) (fun wS hS => ?_) ?_
         rotate_left
         · have hS' := (SD.out _).1 hS
           obtain ⟨hb0, ⟨u1_0, u1_1, u1_2, hb1⟩, hB⟩ := hS'
           have c0_0 := hb0.cell 0
           have c0_1 := hb0.cell 1
           have c0_2 := hb0.cell 2
           have c1_0 := hb1.cell 0
           have c1_1 := hb1.cell 1
           have c1_2 := hb1.cell 2
           go_simp
           first
             | exact ⟨rfl, Below.refl _ _⟩
         simp only [Act.put, List.setIfInBounds_toArray, List.set_cons_zero, List.set_cons_succ])
    first
      | (refine Way.no 11 (by rfl) (by kernel_rfl) (by rfl) ?_; simp only [Act.put, List.setIfInBounds_toArray, List.set_cons_zero, List.set_cons_succ])
      | (refine' Way.yes 11 (by rfl) (by kernel_rfl) (by rfl) (fun wS hS => ?_) ?_
         rotate_left
         · have hS' := (SD.out _).1 hS
           obtain ⟨hb0, ⟨u1_0, u1_1, u1_2, hb1⟩, hB⟩ := hS'
           have c0_0 := hb0.cell 0
           have c0_1 := hb0.cell 1
           have c0_2 := hb0.cell 2
           have c1_0 := hb1.cell 0
           have c1_1 := hb1.cell 1
           have c1_2 := hb1.cell 2
           go_simp
           first
             | exact ⟨rfl, Below.refl _ _⟩
         simp only [Act.put, List.setIfInBounds_toArray, List.set_cons_zero, List.set_cons_succ])
    first
      | (refine Way.no 12 (by rfl) (by kernel_rfl) (by rfl) ?_; simp only [Act.put, List.setIfInBounds_toArray, List.set_cons_zero, List.set_cons_succ])
      | (refine' Way.yes 12 (by rfl) (by kernel_rfl) (by rfl) (fun wS hS => ?_) ?_
         rotate_left
         · have hS' := (SD.out _).1 hS
           obtain ⟨hb0, ⟨u1_0, u1_1, u1_2, hb1⟩, hB⟩ := hS'
           have c0_0 := hb0.cell 0
           have c0_1 := hb0.cell 1
           have c0_2 := hb0.cell 2
           have c1_0 := hb1.cell 0
           have c1_1 := hb1.cell 1
           have c1_2 := hb1.cell 2
           go_simp
           first
             | exact ⟨rfl, Below.refl _ _⟩
         simp only [Act.put, List.setIfInBounds_toArray, List.set_cons_zero, List.set_cons_succ])
    first
      | (refine Way.no 13 (by rfl) (by kernel_rfl) (by rfl) ?_; simp only [Act.put, List.setIfInBounds_toArray, List.set_cons_zero, List.set_cons_succ])
      | (refine' Way.yes 13 (by rfl) (by kernel_rfl) (by rfl) (fun wS hS => ?_) ?_
         rotate_left
         · have hS' := (SD.out _).1 hS
           obtain ⟨hb0, ⟨u1_0, u1_1, u1_2, hb1⟩, hB⟩ := hS'
           have c0_0 := hb0.cell 0
           have c0_1 := hb0.cell 1
           have c0_2 := hb0.cell 2
           have c1_0 := hb1.cell 0
           have c1_1 := hb1.cell 1
           have c1_2 := hb1.cell 2
           go_simp
           first
             | exact ⟨rfl, Below.refl _ _⟩
         simp only [Act.put, List.setIfInBounds_toArray, List.set_cons_zero, List.set_cons_succ])
    refine Way.move 14 (by rfl) (by kernel_rfl) (by rfl) (fun wS hS => ?_)
    have hS' := (SD.out _).1 hS
    obtain ⟨hb0, ⟨u1_0, u1_1, u1_2, hb1⟩, hB⟩ := hS'
    have c0_0 := hb0.cell 0
    have c0_1 := hb0.cell 1
    have c0_2 := hb0.cell 2
    have c1_0 := hb1.cell 0
    have c1_1 := hb1.cell 1
    have c1_2 := hb1.cell 2
    have f1_0 := hb1.frozen 0
    have f1_1 := hb1.frozen 1
    have f1_2 := hb1.frozen 2
    go_simp
    obtain ⟨S_1, SD_1⟩ : ∃ S_1 : World → Prop, Go.RowKit.Hid (∀ x : World, S_1 x ↔ (Blk x w.heap.size 33 #[.bool g, .string ⟨l.toArray⟩, .int .i64 ex] ∧ Blk x (w.heap.size + 1) 33 #[.bool g, .string ⟨(m ++ [49]).toArray⟩, .int .i64 (ex + l.length - 801)] ∧ Below w.heap.size w x)) := ⟨_, Lib.hid (fun _ => Iff.rfl)⟩
    have hst : Stays S_1 := fun W W' h hb => by obtain ⟨h0, h1, hB⟩ := (SD_1.out _).1 h; exact (SD_1.out _).2 ⟨h0.st hb, h1.st hb, hB.trans (hb.mono (Nat.le_trans SDL hB.size))⟩
    have hle : ∀ x, S_1 x → S x := fun x h => by obtain ⟨h0, h1, hB⟩ := (SD_1.out _).1 h; exact (SD.out _).2 ⟨h0, ⟨_, _, _, h1⟩, hB⟩
    refine Moved.keep S_1 hst hle ((SD_1.out _).2 ⟨(((hb0.far (by first | (simp; done) | (simp; omega)) _).far (by first | (simp; done) | (simp; omega)) _).far (by first | (simp; done) | (simp; omega)) _), (((hb1.set1 0 _).set1 1 _).set1 2 _), (((hB.setCell (by first | (simp; done) | (simp; omega)) _).setCell (by first | (simp; done) | (simp; omega)) _).setCell (by first | (simp; done) | (simp; omega)) _)⟩) ?_
    try simp only [Act.put, List.setIfInBounds_toArray, List.set_cons_zero, List.set_cons_succ]
    refine Way.done (by kernel_rfl) (fun wE hS => ?_)
    have hS' := (SD_1.out _).1 hS
    obtain ⟨hb0, hb1, hB⟩ := hS'
    have c0_0 := hb0.cell 0
    have c0_1 := hb0.cell 1
    have c0_2 := hb0.cell 2
    have c1_0 := hb1.cell 0
    have c1_1 := hb1.cell 1
    have c1_2 := hb1.cell 2
    clear hS
    go_wp2_with fail
    obtain ⟨c0, c1, c2⟩ : wE.cell? ⟨w.heap.size + 1, 0, none⟩ = some (.bool g) ∧ wE.cell? ⟨w.heap.size + 1, 1, none⟩ = some (.string ⟨(m ++ [(49 : UInt8)]).toArray⟩) ∧ wE.cell? ⟨w.heap.size + 1, 2, none⟩ = some (.int .i64 (ex + l.length - 801)) := ⟨hb1.cell 0, hb1.cell 1, hb1.cell 2⟩
    exact bodyPost_ret (v := .agg #[.bool g, .string ⟨(m ++ [49]).toArray⟩, .int .i64 (ex + l.length - 801)]) (by simp [results, Tryz.results57, go_sem, c0, c1, c2]) rfl ⟨by rw [HS.out], hB⟩
  · have HS := Lib.hid (show shortD (g, l, ex) = (g, l, ex) from if_neg h8)
    obtain ⟨sd, hsd⟩ : ∃ sd, shortD (g, l, ex) = sd := ⟨_, rfl⟩
    rw [hsd] at HS ⊢
    have t1 : decide ((800 : Int) < (l.length : Int)) = false := decide_eq_false (by omega)
    have t1' : decide (800 < l.length) = false := decide_eq_false h8
    clear hsd h8
    go_enter Tryz.func57, Tryz.ntmps57
    go_wp2_with fail
    exact bodyPost_ret (v := .agg #[.bool g, .string ⟨l.toArray⟩, .int .i64 ex]) (by simp [results, Tryz.results57, go_sem]) rfl ⟨by rw [HS.out], by go_grown⟩
end Go.Proofs.YtjggmdlecdbeeaaGreatDoor

namespace Go.Proofs.YtjggmdlecdbeeaaGreatDoor
open Go.RowKit
set_option linter.unusedSimpArgs false
set_option linter.unusedVariables false

theorem ten_b4 {x p N : Nat} (h : x < 10 ^ p) (hp : p ≤ 4 * N) : x < B4 ^ N := by
  rw [b4_ten]
  exact Nat.lt_of_lt_of_le h (Nat.pow_le_pow_right (by decide) hp)
theorem great_mag {N D m K : Nat} {k : Int} (hK : K = 320) (hm : m < 2 ^ 54) (h1 : -1075 ≤ k) (h2 : k ≤ 971) (h : 10 ^ K * D ≤ N) (hD : 0 < D) : m * D * 2 ^ k.toNat < N * 2 ^ (-k).toNat := by
  have h3 : m * 2 ^ k.toNat < 10 ^ K := by
    have ha : m * 2 ^ k.toNat < 2 ^ 54 * 2 ^ k.toNat := Nat.mul_lt_mul_of_pos_right hm (Nat.pow_pos (by decide))
    rw [← Nat.pow_add] at ha
    obtain ⟨P, hP⟩ : ∃ P, P = 971 := ⟨_, rfl⟩
    have hb : 2 ^ (54 + k.toNat) ≤ 2 ^ (54 + P) := Nat.pow_le_pow_right (by decide) (by omega)
    have hc : 2 ^ (54 + P) ≤ 10 ^ K := by subst hK hP; decide +kernel
    exact Nat.lt_of_lt_of_le ha (Nat.le_trans hb hc)
  have h4 : m * 2 ^ k.toNat * D < 10 ^ K * D := Nat.mul_lt_mul_of_pos_right h3 hD
  have h5 : N ≤ N * 2 ^ (-k).toNat := Nat.le_mul_of_pos_right _ (Nat.pow_pos (by decide))
  have e : m * D * 2 ^ k.toNat = m * 2 ^ k.toNat * D := by ac_rfl
  omega
theorem small_mag {N D m K : Nat} {k : Int} (hK : K = 340) (hm : 0 < m) (h1 : -1075 ≤ k) (h : N * 10 ^ K < D) : N * 2 ^ (-k).toNat < m * D * 2 ^ k.toNat := by
  have hb : 2 ^ (-k).toNat ≤ 10 ^ K := by
    obtain ⟨P, hP⟩ : ∃ P, P = 1075 := ⟨_, rfl⟩
    have h2 : 2 ^ (-k).toNat ≤ 2 ^ P := Nat.pow_le_pow_right (by decide) (by omega)
    have h3 : 2 ^ P ≤ 10 ^ K := by subst hK hP; decide +kernel
    exact Nat.le_trans h2 h3
  have h4 : N * 2 ^ (-k).toNat ≤ N * 10 ^ K := Nat.mul_le_mul_left _ hb
  have h5 : D ≤ m * D := Nat.le_mul_of_pos_left _ hm
  have h6 : m * D ≤ m * D * 2 ^ k.toNat := Nat.le_mul_of_pos_right _ (Nat.pow_pos (by decide))
  omega
theorem ragainst_v {M : Nat} (hM : M = 1000000) (v u : Value) (x y : Nat) (w : World) (hv : RatW w v x) (hu : RatW w u y) (hx : x < B4 ^ M) (hy : y < B4 ^ M) :
    Calls Tryz.prog 63 #[v, u] w fun e w' => e = .returned (.int .i64 (cmpI x y)) ∧ Below w.heap.size w w' := by
  subst hM
  exact ragainst_nat v u x y w hv hu hx hy

set_option maxRecDepth 100000 in
set_option maxHeartbeats 2000000 in
theorem ragv_main (g : Bool) (l : List UInt8) (x : Int) (g' : Bool) (s : List UInt8) (y : Int) (m : Nat) (k : Int) (w : World) (hsh : shortD (g, l, x) = (g', s, y)) (hl : l.length ≤ 140737488353000) (hx1 : -2000000000000000 ≤ x) (hx2 : x ≤ 2000000000000000)
    (hl0 : 0 < l.length) (ht1 : (l.length : Int) + x ≤ 320) (ht2 : -340 ≤ (l.length : Int) + x) (hs8 : s.length ≤ 801) (hsd : ∀ c ∈ s, isD c = true) (hs0 : 0 < dval s) (hty : (s.length : Int) + y = (l.length : Int) + x)
    (hm0 : 0 < m) (hm : m < 2 ^ 54) (hk1 : -1075 ≤ k) (hk2 : k ≤ 971) :
    Calls Tryz.prog 36 #[decV (g, l, x), .int .u64 m, .int .i64 k] w fun e w' => e = .returned (.int .i64 (cmpI (numD (g', s, y) * 2 ^ (-k).toNat) (m * denD (g', s, y) * 2 ^ k.toNat))) ∧ Below w.heap.size w w' := by
  obtain ⟨N, hN⟩ : ∃ N, N = 10000 := ⟨_, rfl⟩
  obtain ⟨M, hM⟩ : ∃ M, M = 1000000 := ⟨_, rfl⟩
  have HN := Lib.hid hN
  have HM := Lib.hid hM
  have HSH : Hid (∀ W, Calls Tryz.prog 57 #[.agg #[.bool g, .string ⟨l.toArray⟩, .int .i64 x]] W fun e w' => e = .returned (.agg #[.bool g', .string ⟨s.toArray⟩, .int .i64 y]) ∧ Below W.heap.size W w') := Lib.hid (fun W => by
    have h := rshort_any (g, l, x) W hl ⟨hx1, hx2⟩
    rw [hsh] at h
    exact h)
  have HS8 := Lib.hid hs8
  have HSD := Lib.hid hsd
  have HS0 := Lib.hid hs0
  have HDL : Hid (dval s < 10 ^ s.length) := Lib.hid (dval_lt s hsd)
  have HMS := Lib.hid hm
  have HM0 := Lib.hid hm0
  have HYT : Hid (y ≤ 320 ∧ -1141 ≤ y ∧ (0 ≤ y → (s.length : Int) ≤ 320 - y)) := Lib.hid ⟨by omega, by omega, fun _ => by omega⟩
  have t1 : (((l.length : Nat) : Int) == 0) = false := by rw [beq_eq_false_iff_ne]; omega
  have t1' : (l.length == 0) = false := by rw [beq_eq_false_iff_ne]; omega
  have t2 : ((m : Int) == 0) = false := by rw [beq_eq_false_iff_ne]; omega
  have t2' : (m == 0) = false := by rw [beq_eq_false_iff_ne]; omega
  have t3 : decide ((320 : Int) < (l.length : Int) + x) = false := decide_eq_false (by omega)
  have t4 : decide ((l.length : Int) + x < -340) = false := decide_eq_false (by omega)
  have e1 : IntKind.i64.wrap ((l.length : Int) + x) = (l.length : Int) + x := IntWalk.i64_in _ (by omega)
  have hlI : (l.length : Int) ≤ 140737488353000 := by omega
  have HK0 := Lib.hid (Blk.new w 33 #[.bool g, .string ⟨l.toArray⟩, .int .i64 x])
  have HB0 := Lib.hid ((Below.refl _ w).alloc (Nat.le_refl _) (.cells #[.bool g, .string ⟨l.toArray⟩, .int .i64 x] 33))
  obtain ⟨W0, hW0⟩ : ∃ W0, w.alloc (.cells #[.bool g, .string ⟨l.toArray⟩, .int .i64 x] 33) = W0 := ⟨_, rfl⟩
  rw [hW0] at HK0 HB0
  obtain ⟨c0, c1, c2, f0, f1, f2⟩ := HK0.out.three
  clear hN hM hsh hl hs8 hsd hs0 hm hm0 hl0
  unfold decV sv
  go_enter Tryz.func36, Tryz.ntmps36
  go_wp2_with fail
  refine (HSH.out _).mono ?_
  rintro e w1 ⟨rfl, hb1⟩
  have HK1 := Lib.hid (HK0.out.below hb1 HK0.out.lt)
  have HB1 := Lib.hid (keepb HB0.out hb1)
  clear c0 c1 c2 f0 f1 f2 hW0 hb1 t1 t1' t3 t4 e1 HSH
  obtain ⟨c0, c1, c2, f0, f1, f2⟩ := HK1.out.three
  go_upto_region 13 with fail
  clear c0 c1 c2 f0 f1 f2
  have HK2 := Lib.hid (((HK1.out.set1 0 (.bool g')).set1 1 (.string ⟨s.toArray⟩)).set1 2 (.int .i64 y))
  have HB2 := Lib.hid (below_put3 HB1.out (Nat.le_refl _) (.bool g') (.string ⟨s.toArray⟩) (.int .i64 y))
  generalize ((w1.setCell ⟨w.heap.size, 0, none⟩ (.bool g')).setCell ⟨w.heap.size, 1, none⟩ (.string ⟨s.toArray⟩)).setCell ⟨w.heap.size, 2, none⟩ (.int .i64 y) = W2 at *
  have HK2 : Hid (Blk W2 w.heap.size 33 #[.bool g', .string ⟨s.toArray⟩, .int .i64 y]) := Lib.hid HK2.out
  have HPA := Lib.hid (rparse_any s W2 HS8.out HSD.out)
  obtain ⟨c0, c1, c2, f0, f1, f2⟩ := HK2.out.three
  go_wp2_with fail
  refine HPA.out.mono ?_
  rintro e w3 ⟨A3, n3, c3, b3, rfl, hl3, hb3⟩
  have HL3 := Lib.hid hl3
  have HK3 := Lib.hid (HK2.out.below hb3 HK2.out.lt)
  have HB3 := Lib.hid (keepb HB2.out hb3)
  clear hl3 hb3 HPA c0 c1 c2 f0 f1 f2
  go_upto_region 14 with fail
  obtain ⟨g8, hg8⟩ : ∃ g, w3.heap.size = g := ⟨_, rfl⟩
  obtain ⟨W4, hW4⟩ : ∃ W, w3.alloc (.cells #[.slice A3 n3 c3] 100) = W := ⟨_, rfl⟩
  have hb4 : Below w3.heap.size w3 W4 := by rw [← hW4]; exact below_new _ _
  have HX4 : Hid (Blk W4 g8 100 #[.slice A3 n3 c3]) := Lib.hid (by rw [← hW4, ← hg8]; exact Blk.new w3 _ _)
  have HL4 := Lib.hid (HL3.out.below hb4)
  have HK4 := Lib.hid (HK3.out.below hb4 HK3.out.lt)
  have HB4 := Lib.hid (keepb HB3.out hb4)
  have HG8 : Hid (w.heap.size < g8) := Lib.hid (by rw [← hg8]; exact HK3.out.lt)
  rw [hg8, hW4]
  clear hg8 hW4 hb4
  have HOF := Lib.hid (rof_nat m W4 (by have := HMS.out; unfold W64; omega))
  go_wp2_with fail
  refine HOF.out.mono ?_
  rintro e w5 ⟨A5, n5, c5, rfl, hl5, hb5⟩
  have HY5 := Lib.hid hl5
  have HL5 := Lib.hid (HL4.out.below hb5)
  have HX5 := Lib.hid (HX4.out.below hb5 HX4.out.lt)
  have HK5 := Lib.hid (HK4.out.below hb5 HK4.out.lt)
  have HB5 := Lib.hid (keepb HB4.out hb5)
  clear hl5 hb5 HOF
  go_upto_region 15 with fail
  obtain ⟨g9, hg9⟩ : ∃ g, w5.heap.size = g := ⟨_, rfl⟩
  obtain ⟨W6, hW6⟩ : ∃ W, w5.alloc (.cells #[.slice A5 n5 c5] 100) = W := ⟨_, rfl⟩
  have hb6 : Below w5.heap.size w5 W6 := by rw [← hW6]; exact below_new _ _
  have HZ6 : Hid (Blk W6 g9 100 #[.slice A5 n5 c5]) := Lib.hid (by rw [← hW6, ← hg9]; exact Blk.new w5 _ _)
  have HY6 := Lib.hid (HY5.out.below hb6)
  have HL6 := Lib.hid (HL5.out.below hb6)
  have HX6 := Lib.hid (HX5.out.below hb6 HX5.out.lt)
  have HK6 := Lib.hid (HK5.out.below hb6 HK5.out.lt)
  have HB6 := Lib.hid (keepb HB5.out hb6)
  have HG9 : Hid (g8 < g9) := Lib.hid (by rw [← hg9]; exact HX5.out.lt)
  rw [hg9, hW6]
  clear hg9 hW6 hb6 HL3 HL4 HL5 HK0 HK1 HK2 HK3 HK4 HK5 HX4 HX5 HY5 HB0 HB1 HB2 HB3 HB4 HB5
  obtain ⟨c0, c1, c2, f0, f1, f2⟩ := HK6.out.three
  obtain ⟨xc, xf⟩ : W6.cell? ⟨g8, 0, none⟩ = some (.slice A3 n3 c3) ∧ W6.frozen? ⟨g8, 0, none⟩ = false := ⟨HX6.out.cell 0, HX6.out.frozen 0⟩
  obtain ⟨yc, yf⟩ : W6.cell? ⟨g9, 0, none⟩ = some (.slice A5 n5 c5) ∧ W6.frozen? ⟨g9, 0, none⟩ = false := ⟨HZ6.out.cell 0, HZ6.out.frozen 0⟩
  obtain ⟨tb, htb⟩ : ∃ tb, decide ((0 : Int) ≤ y) = tb := ⟨_, rfl⟩
  have HTB := Lib.hid htb
  go_upto_if 47 with fail
  clear htb
  go_cut [48] from 48 to 57 (fun s48 wx => ∃ A n c A' n' c', Blk wx g8 100 #[.slice A n c] ∧ RatL wx A n c (numD (g', s, y)) ∧ Blk wx g9 100 #[.slice A' n' c'] ∧ RatL wx A' n' c' (m * denD (g', s, y)) ∧ Below w.heap.size w wx)
  case first =>
    by_cases hy : 0 ≤ y
    · obtain ⟨e, he⟩ : ∃ e : Nat, y = e := ⟨y.toNat, by omega⟩
      obtain rfl : tb = true := by rw [← HTB.out]; exact decide_eq_true hy
      have HYE := Lib.hid he
      have HEV : Hid (numD (g', s, y) = dval s * 10 ^ e ∧ m * denD (g', s, y) = m) := Lib.hid (by
        subst he
        unfold numD denD
        simp)
      have hxx : dval s * 10 ^ e < 10 ^ (s.length + e) := by rw [Nat.pow_add]; exact Nat.mul_lt_mul_of_pos_right HDL.out (Nat.pow_pos (by decide))
      have HSC := Lib.hid (rscaled_nat _ (dval s) e N W6 HL6.out.w HS0.out HN.out (ten_b4 hxx (by have := HYT.out; have := HN.out; omega)) (by have := HYT.out; omega))
      subst he
      clear hxx hy
      go_wp2_with fail
      refine HSC.out.mono ?_
      rintro e' w7 ⟨A7, n7, c7, rfl, hl7, hb7⟩
      have HX7 := Lib.hid (HX6.out.below hb7 HX6.out.lt)
      have HZ7 := Lib.hid (HZ6.out.below hb7 HZ6.out.lt)
      have HY7 := Lib.hid (HY6.out.below hb7)
      have HL7 := Lib.hid hl7
      have HB7 := Lib.hid (keepb HB6.out hb7)
      have hf7 := HX7.out.frozen 0
      have hc7 := HX7.out.cell 0
      simp at hc7
      clear hl7 hb7 c0 c1 c2 f0 f1 f2 xc xf yc yf HSC
      go_wp2_with fail
      go_meet
      exact ⟨A7, n7, c7, A5, n5, c5, HX7.out.set1 0 _, by rw [HEV.out.1]; exact HL7.out.set HX7.out (by decide) _, HZ7.out.far (p := ⟨g8, 0, none⟩) (by have := HG9.out; simp; omega) _, by rw [HEV.out.2]; exact HY7.out.set HX7.out (by decide) _, HB7.out.setCell (p := ⟨g8, 0, none⟩) (Nat.le_of_lt HG8.out) _⟩
    · obtain ⟨e, he⟩ : ∃ e : Nat, y = -(e : Int) := ⟨(-y).toNat, by omega⟩
      obtain rfl : tb = false := by rw [← HTB.out]; exact decide_eq_false hy
      have HEV : Hid (numD (g', s, y) = dval s ∧ m * denD (g', s, y) = m * 10 ^ e) := Lib.hid (by
        subst he
        unfold numD denD
        simp)
      have hme : m * 10 ^ e < 10 ^ (17 + e) := by
        rw [Nat.pow_add]
        exact Nat.mul_lt_mul_of_pos_right (by have := HMS.out; omega) (Nat.pow_pos (by decide))
      have hneg : -(-(e : Int)) = (e : Int) := by omega
      have hneg2 : IntKind.i64.wrap (-(-(e : Int))) = (e : Int) := by rw [hneg]; exact IntWalk.i64_in _ (by have := HYT.out; omega)
      have heI : (e : Int) ≤ 1141 := by have := HYT.out; omega
      have he1 : (1 : Int) ≤ (e : Int) := by omega
      have HSC := Lib.hid (rscaled_nat _ m e N W6 HY6.out.w HM0.out HN.out (ten_b4 hme (by have := HYT.out; have := HN.out; omega)) (by have := HYT.out; omega))
      have HYE := Lib.hid he
      subst he
      clear hme hy
      go_wp2_with fail
      refine HSC.out.mono ?_
      rintro e' w7 ⟨A7, n7, c7, rfl, hl7, hb7⟩
      have HX7 := Lib.hid (HX6.out.below hb7 HX6.out.lt)
      have HZ7 := Lib.hid (HZ6.out.below hb7 HZ6.out.lt)
      have HY7 := Lib.hid hl7
      have HL7 := Lib.hid (HL6.out.below hb7)
      have HB7 := Lib.hid (keepb HB6.out hb7)
      have hf7 := HZ7.out.frozen 0
      have hc7 := HZ7.out.cell 0
      simp at hc7
      clear hl7 hb7 c0 c1 c2 f0 f1 f2 xc xf yc yf HSC
      go_wp2_with fail
      go_meet
      exact ⟨A3, n3, c3, A7, n7, c7, HX7.out.far (p := ⟨g9, 0, none⟩) (by have := HG9.out; simp; omega) _, by rw [HEV.out.1]; exact HL7.out.set HZ7.out (by decide) _, HZ7.out.set1 0 _, by rw [HEV.out.2]; exact HY7.out.set HZ7.out (by decide) _, HB7.out.setCell (p := ⟨g9, 0, none⟩) (Nat.le_of_lt (Nat.lt_trans HG8.out HG9.out)) _⟩
  case rest =>
  clear c0 c1 c2 f0 f1 f2 xc xf yc yf HL6 HX6 HZ6 HY6 HK6 HB6
  obtain ⟨A, n, c, A', n', c', hx, hlx, hz, hly, hb⟩ := hcut
  have HX := Lib.hid hx
  have HL := Lib.hid hlx
  have HZ := Lib.hid hz
  have HY := Lib.hid hly
  have HB := Lib.hid hb
  have HNB : Hid (numD (g', s, y) < B4 ^ N) := Lib.hid (by
    have h1 : numD (g', s, y) < 10 ^ (s.length + y.toNat) := by
      unfold numD
      rw [Nat.pow_add]
      exact Nat.mul_lt_mul_of_pos_right HDL.out (Nat.pow_pos (by decide))
    exact ten_b4 h1 (by have := HYT.out; have := HS8.out; have := HN.out; omega))
  have HDB : Hid (m * denD (g', s, y) < B4 ^ N) := Lib.hid (by
    have h1 : m * denD (g', s, y) < 10 ^ (17 + (-y).toNat) := by
      unfold denD
      rw [Nat.pow_add]
      exact Nat.mul_lt_mul_of_pos_right (by have := HMS.out; omega) (Nat.pow_pos (by decide))
    exact ten_b4 h1 (by have := HYT.out; have := HN.out; omega))
  clear hx hlx hz hly hb
  obtain ⟨X, hXX⟩ : ∃ X, numD (g', s, y) = X := ⟨_, rfl⟩
  obtain ⟨Y, hYY⟩ : ∃ Y, m * denD (g', s, y) = Y := ⟨_, rfl⟩
  rw [hXX] at HL HNB
  rw [hYY] at HY HDB
  have HXX := Lib.hid hXX
  have HYY := Lib.hid hYY
  clear hXX hYY
  rename World => wx
  go_upto_region 18 with fail
  obtain ⟨xc, xf⟩ : wx.cell? ⟨g8, 0, none⟩ = some (.slice A n c) ∧ wx.frozen? ⟨g8, 0, none⟩ = false := ⟨HX.out.cell 0, HX.out.frozen 0⟩
  obtain ⟨yc, yf⟩ : wx.cell? ⟨g9, 0, none⟩ = some (.slice A' n' c') ∧ wx.frozen? ⟨g9, 0, none⟩ = false := ⟨HZ.out.cell 0, HZ.out.frozen 0⟩
  obtain ⟨tk, htk⟩ : ∃ tk, decide ((0 : Int) ≤ k) = tk := ⟨_, rfl⟩
  have HTK := Lib.hid htk
  go_upto_if 58 with fail
  clear htk
  go_cut [59] from 59 to 68 (fun s59 wy => ∃ A n c A' n' c', Blk wy g8 100 #[.slice A n c] ∧ RatL wy A n c (X * 2 ^ (-k).toNat) ∧ Blk wy g9 100 #[.slice A' n' c'] ∧ RatL wy A' n' c' (Y * 2 ^ k.toNat) ∧ Below w.heap.size w wy)
  case first =>
    by_cases hk : 0 ≤ k
    · obtain ⟨e, he⟩ : ∃ e : Nat, k = e := ⟨k.toNat, by omega⟩
      obtain rfl : tk = true := by rw [← HTK.out]; exact decide_eq_true hk
      have HEV : Hid (X * 2 ^ (-k).toNat = X ∧ Y * 2 ^ k.toNat = Y * 2 ^ e) := Lib.hid (by subst he; simp)
      have HTW : Hid (∀ W, Calls Tryz.prog 62 #[.int .i64 (e : Int)] W (RatV (2 ^ e) W)) := Lib.hid (fun W => rtwo_nat e W (by omega))
      have HPR : Hid (∀ W u, Below wx.heap.size wx W → RatW W u (2 ^ e) → Calls Tryz.prog 61 #[.agg #[.slice A' n' c'], u] W (RatV (Y * 2 ^ e) W)) := Lib.hid (fun W u hb hu => rproduct_v HN.out _ u _ _ W (HY.out.below hb).w hu HDB.out (two_lt (N := N) (by have := HN.out; omega) (by have := HN.out; omega) (Nat.le_refl _)))
      have HZL := Lib.hid HZ.out.lt
      subst he
      clear hk
      go_upto_region 19 with fail
      go_region_with (first
        | (go_at_call 62; refine (HTW.out _).mono ?_; rintro e wa ⟨A5, n5, c5, rfl, hl5, hb5⟩; have HLA := Lib.hid hl5; have HWA := Lib.hid (keepb (below_drewN (Below.refl _ _) 1) hb5); have hca := keepc HWA.out HZL.out yc; clear hl5 hb5)
        | (go_at_call 61; refine (HPR.out _ _ HWA.out HLA.out.w).mono ?_; rintro e wb ⟨A6, n6, c6, rfl, hl6, hb6⟩; have HLB := Lib.hid hl6; have HWB := Lib.hid (keepb HWA.out hb6); have HBB := Lib.hid (HZ.out.below HWB.out HZL.out); have hcb := HBB.out.cell 0; have hfb := HBB.out.frozen 0; simp at hcb; clear hl6 hb6))
      all_goals
        go_wp2_with fail
        go_meet
        exact ⟨A, n, c, A6, n6, c6, (HX.out.below HWB.out HX.out.lt).far (p := ⟨g9, 0, none⟩) (by have := HG9.out; simp; omega) _, by rw [HEV.out.1]; exact (HL.out.below HWB.out).set HBB.out (by decide) _, HBB.out.set1 0 _, by rw [HEV.out.2]; exact HLB.out.set HBB.out (by decide) _, (keepb HB.out HWB.out).setCell (p := ⟨g9, 0, none⟩) (Nat.le_of_lt (Nat.lt_trans HG8.out HG9.out)) _⟩
    · obtain ⟨e, he⟩ : ∃ e : Nat, k = -(e : Int) := ⟨(-k).toNat, by omega⟩
      obtain rfl : tk = false := by rw [← HTK.out]; exact decide_eq_false hk
      have HEV : Hid (X * 2 ^ (-k).toNat = X * 2 ^ e ∧ Y * 2 ^ k.toNat = Y) := Lib.hid (by subst he; simp)
      have HTW : Hid (∀ W, Calls Tryz.prog 62 #[.int .i64 (e : Int)] W (RatV (2 ^ e) W)) := Lib.hid (fun W => rtwo_nat e W (by omega))
      have HPR : Hid (∀ W u, Below wx.heap.size wx W → RatW W u (2 ^ e) → Calls Tryz.prog 61 #[.agg #[.slice A n c], u] W (RatV (X * 2 ^ e) W)) := Lib.hid (fun W u hb hu => rproduct_v HN.out _ u _ _ W (HL.out.below hb).w hu HNB.out (two_lt (N := N) (by have := HN.out; omega) (by have := HN.out; omega) (Nat.le_refl _)))
      have HZL := Lib.hid HX.out.lt
      have hneg : -(-(e : Int)) = (e : Int) := by omega
      have hneg2 : IntKind.i64.wrap (-(-(e : Int))) = (e : Int) := by rw [hneg]; exact IntWalk.i64_in _ (by omega)
      have hneg3 : IntKind.i64.wrap (e : Int) = (e : Int) := IntWalk.i64_in _ (by omega)
      subst he
      clear hk
      go_upto_region 20 with fail
      go_region_with (first
        | (go_at_call 62; refine (HTW.out _).mono ?_; rintro e wa ⟨A5, n5, c5, rfl, hl5, hb5⟩; have HLA := Lib.hid hl5; have HWA := Lib.hid (keepb (below_drewN (Below.refl _ _) 1) hb5); have hca := keepc HWA.out HZL.out xc; clear hl5 hb5)
        | (go_at_call 61; refine (HPR.out _ _ HWA.out HLA.out.w).mono ?_; rintro e wb ⟨A6, n6, c6, rfl, hl6, hb6⟩; have HLB := Lib.hid hl6; have HWB := Lib.hid (keepb HWA.out hb6); have HBB := Lib.hid (HX.out.below HWB.out HZL.out); have hcb := HBB.out.cell 0; have hfb := HBB.out.frozen 0; simp at hcb; clear hl6 hb6))
      all_goals
        go_wp2_with fail
        go_meet
        exact ⟨A6, n6, c6, A', n', c', HBB.out.set1 0 _, by rw [HEV.out.1]; exact HLB.out.set HBB.out (by decide) _, (HZ.out.below HWB.out HZ.out.lt).far (p := ⟨g8, 0, none⟩) (by have := HG9.out; simp; omega) _, by rw [HEV.out.2]; exact (HY.out.below HWB.out).set HBB.out (by decide) _, (keepb HB.out HWB.out).setCell (p := ⟨g8, 0, none⟩) (Nat.le_of_lt HG8.out) _⟩
  case rest =>
  clear xc xf yc yf HX HL HZ HY HB
  obtain ⟨A, n, c, A', n', c', hx, hlx, hz, hly, hb⟩ := hcut
  rename World => wy
  have HB := Lib.hid hb
  have HAG := Lib.hid (ragainst_v HM.out _ _ _ _ wy hlx.w hly.w (by
    have h1 : X * 2 ^ (-k).toNat < B4 ^ N * B4 ^ N := Nat.mul_lt_mul'' HNB.out (two_lt (N := N) (by have := HN.out; omega) (by have := HN.out; omega) (Nat.le_refl _))
    rw [← Nat.pow_add] at h1
    exact Nat.lt_of_lt_of_le h1 (Nat.pow_le_pow_right (by decide) (by have := HN.out; have := HM.out; omega))) (by
    have h1 : Y * 2 ^ k.toNat < B4 ^ N * B4 ^ N := Nat.mul_lt_mul'' HDB.out (two_lt (N := N) (by have := HN.out; omega) (by have := HN.out; omega) (Nat.le_refl _))
    rw [← Nat.pow_add] at h1
    exact Nat.lt_of_lt_of_le h1 (Nat.pow_le_pow_right (by decide) (by have := HN.out; have := HM.out; omega))))
  obtain ⟨xc, xf⟩ : wy.cell? ⟨g8, 0, none⟩ = some (.slice A n c) ∧ wy.frozen? ⟨g8, 0, none⟩ = false := ⟨hx.cell 0, hx.frozen 0⟩
  obtain ⟨yc, yf⟩ : wy.cell? ⟨g9, 0, none⟩ = some (.slice A' n' c') ∧ wy.frozen? ⟨g9, 0, none⟩ = false := ⟨hz.cell 0, hz.frozen 0⟩
  clear hx hlx hz hly hb
  go_wp2_with fail
  refine HAG.out.mono ?_
  rintro e wz ⟨rfl, hbz⟩
  have HBZ := Lib.hid (keepb HB.out hbz)
  clear hbz
  go_wp2_with fail
  go_ret
  exact ⟨by rw [HXX.out, HYY.out] <;> rfl, HBZ.out⟩

def AgvP (d : Dm) (m : Nat) (k : Int) (w : World) (e : Ending) (w' : World) : Prop := e = .returned (.int .i64 (agV d m k)) ∧ Below w.heap.size w w'
set_option maxRecDepth 100000 in
set_option maxHeartbeats 1000000 in
theorem ragv_any (d : Dm) (m : Nat) (k : Int) (w : World) (hd : Bare d) (hl : d.2.1.length ≤ 140737488353000) (hx1 : -2000000000000000 ≤ d.2.2) (hx2 : d.2.2 ≤ 2000000000000000) (hm : m < 2 ^ 54) (hk1 : -1075 ≤ k) (hk2 : k ≤ 971) :
    Calls Tryz.prog 36 #[decV d, .int .u64 m, .int .i64 k] w (AgvP d m k w) := by
  by_cases h0 : d.2.1 = []
  · have e := hd.2.1 h0
    subst e
    have hmI : (m : Int) < 18014398509481984 := by omega
    unfold decV sv
    have HB0 := Lib.hid ((Below.refl _ w).alloc (Nat.le_refl _) (.cells #[.bool false, .string ⟨#[]⟩, .int .i64 0] 33))
    by_cases hm0 : m = 0
    · have HV := Lib.hid (show agV (false, [], 0) m k = 0 by unfold agV; rw [if_pos rfl, if_pos hm0])
      have t1 : decide ((0 : Int) < (m : Int)) = false := decide_eq_false (by omega)
      have t1' : decide (0 < m) = false := decide_eq_false (by omega)
      clear h0 hd hl hx1 hx2 hm hm0
      go_enter Tryz.func36, Tryz.ntmps36
      go_wp2_with fail
      go_ret
      exact ⟨by rw [HV.out] <;> rfl, HB0.out⟩
    · have HV := Lib.hid (show agV (false, [], 0) m k = -1 by unfold agV; rw [if_pos rfl, if_neg hm0])
      have t1 : decide ((0 : Int) < (m : Int)) = true := decide_eq_true (by omega)
      have t1' : decide (0 < m) = true := decide_eq_true (by omega)
      clear h0 hd hl hx1 hx2 hm hm0
      go_enter Tryz.func36, Tryz.ntmps36
      go_wp2_with fail
      go_ret
      exact ⟨by rw [HV.out] <;> rfl, HB0.out⟩
  · have hlead := hd.lead h0
    have hsl := shortD_lead hlead
    have hvs : agV d m k = cmpI (numD (shortD d) * 2 ^ (-k).toNat) (m * denD (shortD d) * 2 ^ k.toNat) := by unfold agV; rw [if_neg h0]
    have htop := shortD_top d
    have hD := denD_pos (shortD d)
    have hpos : 0 < d.2.1.length := List.length_pos_iff.2 h0
    by_cases hmz : m = 0
    · have hval : agV d m k = 1 := by
        rw [hvs, hmz]
        refine cmpI_gt ?_
        rw [Nat.zero_mul, Nat.zero_mul]
        exact Nat.mul_pos (mag_pos hsl) (Nat.pow_pos (by decide))
      have HV := Lib.hid hval
      obtain ⟨g, l, x⟩ := d
      simp only at hl hx1 hx2 hpos
      subst hmz
      have t1 : (((l.length : Nat) : Int) == 0) = false := by rw [beq_eq_false_iff_ne]; omega
      have t1' : (l.length == 0) = false := by rw [beq_eq_false_iff_ne]; omega
      have t2 : decide ((0 : Int) < (l.length : Int)) = true := decide_eq_true (by omega)
      have t2' : decide (0 < l.length) = true := decide_eq_true hpos
      have e0 : ((0 : Nat) : Int) = 0 := rfl
      have e1 : IntKind.i64.wrap ((l.length : Int) + x) = (l.length : Int) + x := IntWalk.i64_in _ (by omega)
      have HB0 := Lib.hid ((Below.refl _ w).alloc (Nat.le_refl _) (.cells #[.bool g, .string ⟨l.toArray⟩, .int .i64 x] 33))
      unfold decV sv
      rw [e0]
      clear h0 hd hlead hsl hvs htop hD hval e0
      go_enter Tryz.func36, Tryz.ntmps36
      go_wp2_with fail
      go_ret
      exact ⟨by rw [HV.out] <;> rfl, HB0.out⟩
    by_cases ht1 : 320 < topD d
    · have hval : agV d m k = 1 := by
        obtain ⟨K, hK⟩ : ∃ K, K = 320 := ⟨_, rfl⟩
        have h1 := mag_ge hsl K (by rw [htop]; omega)
        rw [hvs]
        exact cmpI_gt (great_mag hK hm hk1 hk2 h1 hD)
      have HV := Lib.hid hval
      obtain ⟨g, l, x⟩ := d
      have ht : 320 < (l.length : Int) + x := ht1
      simp only at hl hx1 hx2 hpos
      have t1 : (((l.length : Nat) : Int) == 0) = false := by rw [beq_eq_false_iff_ne]; omega
      have t1' : (l.length == 0) = false := by rw [beq_eq_false_iff_ne]; omega
      have t2 : ((m : Int) == 0) = false := by rw [beq_eq_false_iff_ne]; omega
      have t2' : (m == 0) = false := by rw [beq_eq_false_iff_ne]; omega
      have t3 : decide ((320 : Int) < (l.length : Int) + x) = true := decide_eq_true (by omega)
      have e1 : IntKind.i64.wrap ((l.length : Int) + x) = (l.length : Int) + x := IntWalk.i64_in _ (by omega)
      have HB0 := Lib.hid ((Below.refl _ w).alloc (Nat.le_refl _) (.cells #[.bool g, .string ⟨l.toArray⟩, .int .i64 x] 33))
      unfold decV sv
      clear h0 hd hlead hsl hvs htop hD hval hm ht1
      go_enter Tryz.func36, Tryz.ntmps36
      go_wp2_with fail
      go_ret
      exact ⟨by rw [HV.out] <;> rfl, HB0.out⟩
    by_cases ht2 : topD d < -340
    · have hval : agV d m k = -1 := by
        obtain ⟨K, hK⟩ : ∃ K, K = 340 := ⟨_, rfl⟩
        have h1 := mag_small hsl K (by rw [htop]; omega)
        rw [hvs]
        exact cmpI_lt (small_mag hK (by omega) hk1 h1)
      have HV := Lib.hid hval
      obtain ⟨g, l, x⟩ := d
      have ht : (l.length : Int) + x < -340 := ht2
      simp only at hl hx1 hx2 hpos
      have t1 : (((l.length : Nat) : Int) == 0) = false := by rw [beq_eq_false_iff_ne]; omega
      have t1' : (l.length == 0) = false := by rw [beq_eq_false_iff_ne]; omega
      have t2 : ((m : Int) == 0) = false := by rw [beq_eq_false_iff_ne]; omega
      have t2' : (m == 0) = false := by rw [beq_eq_false_iff_ne]; omega
      have t3 : decide ((320 : Int) < (l.length : Int) + x) = false := decide_eq_false (by omega)
      have t4 : decide ((l.length : Int) + x < -340) = true := decide_eq_true ht
      have e1 : IntKind.i64.wrap ((l.length : Int) + x) = (l.length : Int) + x := IntWalk.i64_in _ (by omega)
      have HB0 := Lib.hid ((Below.refl _ w).alloc (Nat.le_refl _) (.cells #[.bool g, .string ⟨l.toArray⟩, .int .i64 x] 33))
      unfold decV sv
      clear h0 hd hlead hsl hvs htop hD hval hm ht1 ht2
      go_enter Tryz.func36, Tryz.ntmps36
      go_wp2_with fail
      go_ret
      exact ⟨by rw [HV.out] <;> rfl, HB0.out⟩
    obtain ⟨g, l, x⟩ := d
    obtain ⟨sd, hsd⟩ : ∃ sd, shortD (g, l, x) = sd := ⟨_, rfl⟩
    have hsl8 := shortD_len (g, l, x)
    rw [hsd] at htop hsl hvs hsl8
    obtain ⟨g', s, y⟩ := sd
    have h := ragv_main g l x g' s y m k w hsd hl hx1 hx2 hpos (by unfold topD at ht1; simp only at ht1; omega) (by unfold topD at ht2; simp only at ht2; omega) hsl8 hsl.1 (by have := hsl.ge; exact Nat.lt_of_lt_of_le (Nat.pow_pos (by decide)) this) (by unfold topD at htop; simp only at htop; omega) (by omega) hm hk1 hk2
    rw [← hvs] at h
    exact h
end Go.Proofs.YtjggmdlecdbeeaaGreatDoor

namespace Go.Proofs.YtjggmdlecdbeeaaGreatDoor
open Go.RowKit
set_option linter.unusedSimpArgs false
set_option linter.unusedVariables false

theorem flt_bounds {b : Nat} (hb : b ≤ most) : fltM b < 2 ^ 53 ∧ -1074 ≤ fltK b ∧ fltK b ≤ 971 := by
  unfold most at hb
  unfold fltM fltK
  split
  · exact ⟨by omega, by omega, by omega⟩
  · exact ⟨by omega, by omega, by omega⟩
/-- What is asked of a decimal that the reference holds against floats. -/
structure Okd (d : Dm) : Prop where
  bare : Bare d
  len : d.2.1.length ≤ 140737488353000
  lo : -2000000000000000 ≤ d.2.2
  hi : d.2.2 ≤ 2000000000000000
theorem ragF_any (d : Dm) (b : Nat) (w : World) (hd : Okd d) (hb : b ≤ most) :
    Calls Tryz.prog 36 #[decV d, .int .u64 (fltM b : Nat), .int .i64 (fltK b)] w fun e w' => e = .returned (.int .i64 (agF d b)) ∧ Below w.heap.size w w' := by
  obtain ⟨h1, h2, h3⟩ := flt_bounds hb
  have h := ragv_any d (fltM b) (fltK b) w hd.bare hd.len hd.lo hd.hi (by omega) (by omega) (by omega)
  unfold AgvP at h
  rw [agV_flt] at h
  exact h
theorem ragH_any (d : Dm) (b : Nat) (w : World) (hd : Okd d) (hb : b ≤ most) :
    Calls Tryz.prog 36 #[decV d, .int .u64 ((2 * fltM b + 1 : Nat) : Int), .int .i64 (fltK b - 1)] w fun e w' => e = .returned (.int .i64 (agH d b)) ∧ Below w.heap.size w w' := by
  obtain ⟨h1, h2, h3⟩ := flt_bounds hb
  have h := ragv_any d (2 * fltM b + 1) (fltK b - 1) w hd.bare hd.len hd.lo hd.hi (by omega) (by omega) (by omega)
  unfold AgvP at h
  rw [agV_half] at h
  exact h
theorem rfloat_b (b : Nat) (w : World) (hb : b ≤ most) :
    Calls Tryz.prog 35 #[.int .u64 b] w fun e w' => e = .returned (.tuple #[.int .u64 (fltM b : Nat), .int .i64 (fltK b)]) ∧ w = w' := rfloat_any b w (by unfold most at hb; omega)

set_option maxRecDepth 100000 in
set_option maxHeartbeats 1000000 in
theorem rfloor_any (d : Dm) (w : World) (hd : Okd d) :
    Calls Tryz.prog 34 #[decV d] w fun e w' => e = .returned (.int .u64 ((floorP d).1 : Nat)) ∧ Below w.heap.size w w' := by
  have HAG : Hid (∀ W b, b ≤ most → Calls Tryz.prog 36 #[decV d, .int .u64 (fltM b : Nat), .int .i64 (fltK b)] W fun e w' => e = .returned (.int .i64 (agF d b)) ∧ Below W.heap.size W w') := Lib.hid (fun W b hb => ragF_any d b W hd hb)
  have HGE : Hid (∀ b, b ≤ most → (0 ≤ agF d b ↔ b ≤ (floorP d).1)) := Lib.hid (fun b hb => agF_ge hd.bare hb)
  have HFM := Lib.hid (floorP_most d)
  obtain ⟨F, hF⟩ : ∃ F, (floorP d).1 = F := ⟨_, rfl⟩
  rw [hF] at HGE HFM ⊢
  clear hF hd
  obtain ⟨g, l, x⟩ := d
  unfold decV sv at *
  have HK0 := Lib.hid (Blk.new w 33 #[.bool g, .string ⟨l.toArray⟩, .int .i64 x])
  have HB0 := Lib.hid ((Below.refl _ w).alloc (Nat.le_refl _) (.cells #[.bool g, .string ⟨l.toArray⟩, .int .i64 x] 33))
  go_enter Tryz.func34, Tryz.ntmps34
  go_wp2_with fail
  go_loopw [3, 4] (fun s3 s4 wr => ∃ lo hi : Nat, s3 = .int .u64 lo ∧ s4 = .int .u64 hi ∧ lo ≤ F ∧ F ≤ hi ∧ hi ≤ most ∧ Blk wr w.heap.size 33 #[.bool g, .string ⟨l.toArray⟩, .int .i64 x] ∧ Below w.heap.size w wr) (fun s3 s4 _ => (intOf s4).toNat - (intOf s3).toNat)
  case atStart => exact ⟨0, most, rfl, rfl, Nat.zero_le _, HFM.out, Nat.le_refl _, HK0.out, HB0.out⟩
  case round =>
    obtain ⟨lo, hi, rfl, rfl, h1, h2, h3, hk, hb⟩ := hrel
    have H1 := Lib.hid h1
    have H2 := Lib.hid h2
    have H3 := Lib.hid h3
    have HK := Lib.hid hk
    have HB := Lib.hid hb
    obtain ⟨c0, c1, c2, f0, f1, f2⟩ := hk.three
    have hhi : (hi : Int) ≤ 9218868437227405311 := by unfold most at h3; omega
    clear hk hb
    by_cases hlt : lo < hi
    · obtain ⟨dl, hdl⟩ : ∃ dl, hi = lo + (dl + 1) := ⟨hi - lo - 1, by omega⟩
      obtain ⟨hf, hhf⟩ : ∃ hf, (dl + 2) / 2 = hf := ⟨_, rfl⟩
      obtain ⟨mid, hmid⟩ : ∃ mid, lo + hf = mid := ⟨_, rfl⟩
      have t1 : decide ((lo : Int) < (hi : Int)) = true := decide_eq_true (by omega)
      have t1' : decide (lo < hi) = true := decide_eq_true hlt
      have HMM : Hid (lo < mid ∧ mid ≤ hi) := Lib.hid (by omega)
      have hmI : (mid : Int) ≤ 9218868437227405311 := by omega
      have hm1 : (1 : Int) ≤ (mid : Int) := by omega
      have k0 : (hi : Int) - (lo : Int) = ((dl + 1 : Nat) : Int) := by omega
      have k0' : IntKind.u64.wrap ((hi : Int) - (lo : Int)) = ((dl + 1 : Nat) : Int) := by rw [k0]; exact wrapN _ (by unfold W64; omega)
      have k1 : ((dl + 1 : Nat) : Int) + 1 = ((dl + 2 : Nat) : Int) := by omega
      have k1' : IntKind.u64.wrap (((dl + 1 : Nat) : Int) + 1) = ((dl + 2 : Nat) : Int) := by rw [k1]; exact wrapN _ (by unfold W64; omega)
      have k2 : ((dl + 2 : Nat) : Int) / 2 = (hf : Int) := by omega
      have k2' : Int.tdiv ((dl + 2 : Nat) : Int) 2 = (hf : Int) := by rw [Int.tdiv_eq_ediv_of_nonneg (by omega)]; omega
      have k3 : (lo : Int) + (hf : Int) = (mid : Int) := by omega
      have k3' : IntKind.u64.wrap ((lo : Int) + (hf : Int)) = (mid : Int) := by rw [k3]; exact wrapN _ (by unfold W64; omega)
      have d1 : (0 : Int) ≤ ((dl + 2 : Nat) : Int) := by omega
      have HFL := Lib.hid (rfloat_b mid wr (by unfold most; omega))
      have HAM := Lib.hid (HAG.out wr mid (by unfold most; omega))
      have HGM := Lib.hid (HGE.out mid (by unfold most; omega))
      clear hlt hdl hhf hmid h1 h2 h3
      generalize dl + 1 = d1' at *
      generalize dl + 2 = d2' at *
      generalize fltM mid = m at *
      generalize fltK mid = k at *
      generalize agF (g, l, x) mid = c at *
      go_wp2_with fail
      refine HFL.out.mono ?_
      rintro e w1 ⟨rfl, rfl⟩
      go_wp2_with fail
      refine HAM.out.mono ?_
      rintro e w2 ⟨rfl, hb2⟩
      have HK2 := Lib.hid (HK.out.below hb2 HK.out.lt)
      have HB2 := Lib.hid (keepb HB.out hb2)
      clear hb2 c0 c1 c2 f0 f1 f2
      by_cases hc : 0 ≤ c
      · have t2 : decide (0 ≤ c) = true := decide_eq_true hc
        have HL := Lib.hid (HGM.out.1 hc)
        clear hc
        go_wp2_with fail
        go_roundw
        case rel => exact ⟨mid, hi, rfl, rfl, HL.out, H2.out, H3.out, HK2.out, HB2.out⟩
        case measure => have := HMM.out; simp [intOf]; omega
      · have t2 : decide (0 ≤ c) = false := decide_eq_false hc
        have HL : Hid (F < mid) := Lib.hid (by have h := HGM.out; rcases Nat.lt_or_ge F mid with h1 | h1; exact h1; exact absurd (h.2 h1) hc)
        clear hc
        go_wp2_with fail
        go_roundw
        case rel => exact ⟨lo, mid - 1, rfl, by have := HL.out; show Value.int _ _ = Value.int _ _; congr 1; omega, H1.out, by have := HL.out; omega, by have := HMM.out; have := H3.out; omega, HK2.out, HB2.out⟩
        case measure => have := HMM.out; simp [intOf]; omega
    · obtain rfl : lo = F := by omega
      obtain rfl : lo = hi := by omega
      have t1 : decide ((lo : Int) < (lo : Int)) = false := by simp
      have t1' : decide (lo < lo) = false := by simp
      clear hlt h1 h2 h3
      go_wp2_with fail
      go_ret
      exact ⟨rfl, HB.out⟩
end Go.Proofs.YtjggmdlecdbeeaaGreatDoor

namespace Go.Proofs.YtjggmdlecdbeeaaGreatDoor
open Go.RowKit
set_option linter.unusedSimpArgs false
set_option linter.unusedVariables false

/-- What the reference's Round answers. -/
def roundR (o : Option Nat) : Value := match o with
  | some x => .tuple #[.int .u64 (x : Int), .bool true]
  | none => .tuple #[.int .u64 0, .bool false]

theorem endP_none {g : Bool} {b : Nat} (h : most < b) : endP g b = none := if_pos h
theorem endP_some {g : Bool} {b : Nat} (h : ¬ most < b) : endP g b = some (if g && decide (0 < b) then b + 9223372036854775808 else b) := if_neg h

set_option maxRecDepth 100000 in
set_option maxHeartbeats 4000000 in
theorem rround_any (d : Dm) (way : Int) (w : World) (hd : Okd d) :
    Calls Tryz.prog 12 #[decV d, .int .i64 way] w fun e w' => e = .returned (roundR (roundP d way)) ∧ Below w.heap.size w w' := by
  have HF := Lib.hid (fun W => rfloor_any d W hd)
  have HFM : Hid ((floorP d).1 ≤ most) := Lib.hid (floorP_most d)
  have HFL := Lib.hid (fun W => rfloat_b (floorP d).1 W HFM.out)
  have HAG := Lib.hid (fun W => ragF_any d (floorP d).1 W hd HFM.out)
  have HAH := Lib.hid (fun W => ragH_any d (floorP d).1 W hd HFM.out)
  have HRR := Lib.hid (roundP_ref hd.bare way)
  have hfb := flt_bounds HFM.out
  obtain ⟨F, hF⟩ : ∃ F, (floorP d).1 = F := ⟨_, rfl⟩
  rw [hF] at HF HFM HFL HAG HAH HRR hfb
  obtain ⟨R, hR⟩ : ∃ R, roundP d way = R := ⟨_, rfl⟩
  rw [hR] at HRR ⊢
  obtain ⟨c, hc⟩ : ∃ c, agF d F = c := ⟨_, rfl⟩
  obtain ⟨h, hh⟩ : ∃ h, agH d F = h := ⟨_, rfl⟩
  rw [hc] at HAG HRR
  rw [hh] at HAH HRR
  clear hF hR hc hh hd
  obtain ⟨g, l, x⟩ := d
  obtain ⟨ex, hex⟩ : ∃ ex, (c == 0) = ex := ⟨_, rfl⟩
  have hex' : decide (c = 0) = ex := by rw [← hex]; rfl
  rw [hex'] at HRR
  have HR : Hid (R = endP g (if upR g F ex h way then F + 1 else F)) := Lib.hid HRR.out
  clear hex' HRR
  unfold decV sv at *
  have hFI : (F : Int) ≤ 9218868437227405311 := by have := HFM.out; unfold most at this; omega
  have hm2 : ((fltM F : Nat) : Int) < 9007199254740992 := by omega
  have k1 : (2 : Int) * ((fltM F : Nat) : Int) = ((2 * fltM F : Nat) : Int) := by omega
  have k1' : IntKind.u64.wrap ((2 : Int) * ((fltM F : Nat) : Int)) = ((2 * fltM F : Nat) : Int) := by rw [k1]; exact wrapN _ (by unfold W64; omega)
  have k2 : ((2 * fltM F : Nat) : Int) + 1 = ((2 * fltM F + 1 : Nat) : Int) := by omega
  have k2' : IntKind.u64.wrap (((2 * fltM F : Nat) : Int) + 1) = ((2 * fltM F + 1 : Nat) : Int) := by rw [k2]; exact wrapN _ (by unfold W64; omega)
  have k3' : IntKind.i64.wrap (fltK F - 1) = fltK F - 1 := IntWalk.i64_in _ (by omega)
  have hkl : -1074 ≤ fltK F := hfb.2.1
  have hkh : fltK F ≤ 971 := hfb.2.2
  clear hfb
  generalize 2 * fltM F = m2 at *
  generalize m2 + 1 = m3 at *
  generalize fltM F = m at *
  generalize fltK F = k at *
  have HK0 := Lib.hid (Blk.new w 33 #[.bool g, .string ⟨l.toArray⟩, .int .i64 x])
  have HB0 := Lib.hid ((Below.refl _ w).alloc (Nat.le_refl _) (.cells #[.bool g, .string ⟨l.toArray⟩, .int .i64 x] 33))
  obtain ⟨W0, hW0⟩ : ∃ W0, w.alloc (.cells #[.bool g, .string ⟨l.toArray⟩, .int .i64 x] 33) = W0 := ⟨_, rfl⟩
  rw [hW0] at HK0 HB0
  obtain ⟨c0, c1, c2, f0, f1, f2⟩ := HK0.out.three
  go_enter Tryz.func12, Tryz.ntmps12
  go_wp2_with fail
  refine (HF.out _).mono ?_
  rintro e w1 ⟨rfl, hb1⟩
  have HK1 := Lib.hid (HK0.out.below hb1 HK0.out.lt)
  have HB1 := Lib.hid (keepb HB0.out hb1)
  clear c0 c1 c2 f0 f1 f2 hb1 hW0
  go_wp2_with fail
  refine (HFL.out _).mono ?_
  rintro e w2 ⟨rfl, rfl⟩
  obtain ⟨c0, c1, c2, f0, f1, f2⟩ := HK1.out.three
  go_wp2_with fail
  refine (HAG.out _).mono ?_
  rintro e w2 ⟨rfl, hb2⟩
  have HK2 := Lib.hid (HK1.out.below hb2 HK1.out.lt)
  have HB2 := Lib.hid (keepb HB1.out hb2)
  clear c0 c1 c2 f0 f1 f2 hb2
  obtain ⟨c0, c1, c2, f0, f1, f2⟩ := HK2.out.three
  go_wp2_with fail
  refine (HAH.out _).mono ?_
  rintro e w3 ⟨rfl, hb3⟩
  have HK3 := Lib.hid (HK2.out.below hb3 HK2.out.lt)
  have HB3 := Lib.hid (keepb HB2.out hb3)
  clear c0 c1 c2 f0 f1 f2 hb3 k1 k1' k2 k2' k3' HF HFL HAG HAH hm2 hkl hkh HK0 HK1 HK2 HB0 HB1 HB2
  obtain ⟨t, ht⟩ : ∃ t, (way == 1) = t := ⟨_, rfl⟩
  have HT := Lib.hid ht
  go_upto_if 32 with fail
  obtain ⟨u1, hu1⟩ : ∃ u1, (t && (decide (0 < h) || (h == 0 && F % 2 == 1))) = u1 := ⟨_, rfl⟩
  have HU1 := Lib.hid hu1
  clear hu1 ht
  go_cut [11] from 11 to 44 (fun s11 wx => s11 = .bool u1 ∧ w3 = wx)
  case first =>
    cases t with
    | false =>
      have HV := Lib.hid (show u1 = false from HU1.out.symm)
      go_wp2_with fail
      go_meet
      exact ⟨by rw [HV.out], rfl⟩
    | true =>
      have HV := Lib.hid (show u1 = (decide (0 < h) || (h == 0 && F % 2 == 1)) from HU1.out.symm)
      have em : (F : Int) % 2 = ((F % 2 : Nat) : Int) := by omega
      have em' : Int.tmod (F : Int) 2 = ((F % 2 : Nat) : Int) := by rw [Int.tmod_eq_emod_of_nonneg (by omega)]; omega
      rcases Int.lt_trichotomy h 0 with h1 | h1 | h1
      · have q1 : decide (0 < h) = false := decide_eq_false (by omega)
        have q2 : (h == 0) = false := by rw [beq_eq_false_iff_ne]; omega
        have HV2 := Lib.hid (show u1 = false by rw [HV.out, q1, q2]; rfl)
        clear h1 em em'
        go_wp2_with fail
        go_meet
        exact ⟨by rw [HV2.out], rfl⟩
      · subst h1
        rcases Nat.mod_two_eq_zero_or_one F with h2 | h2
        · have HV2 := Lib.hid (show u1 = false by rw [HV.out, h2]; rfl)
          rw [h2] at em em'
          have e0 : ((0 : Nat) : Int) = 0 := rfl
          rw [e0] at em em'
          clear h2 e0
          go_wp2_with fail
          go_meet
          exact ⟨by rw [HV2.out], rfl⟩
        · have HV2 := Lib.hid (show u1 = true by rw [HV.out, h2]; rfl)
          rw [h2] at em em'
          have e0 : ((1 : Nat) : Int) = 1 := rfl
          rw [e0] at em em'
          clear h2 e0
          go_wp2_with fail
          go_meet
          exact ⟨by rw [HV2.out], rfl⟩
      · have q1 : decide (0 < h) = true := decide_eq_true (by omega)
        have HV2 := Lib.hid (show u1 = true by rw [HV.out, q1]; rfl)
        clear h1 em em'
        go_wp2_with fail
        go_meet
        exact ⟨by rw [HV2.out], rfl⟩
  case rest =>
  obtain ⟨rfl, hwx⟩ := hcut
  subst hwx
  obtain ⟨tt, htt⟩ : ∃ t, (way == 2) = t := ⟨_, rfl⟩
  have HTT := Lib.hid htt
  go_upto_if 45 with fail
  obtain ⟨u2, hu2⟩ : ∃ u2, (if tt then decide (0 ≤ h) else u1) = u2 := ⟨_, rfl⟩
  have HU2 := Lib.hid hu2
  clear hu2 htt
  go_cut [11] from 11 to 48 (fun s11 wx => s11 = .bool u2 ∧ w3 = wx)
  case first =>
    cases tt with
    | false =>
      have HV := Lib.hid (show u2 = u1 from HU2.out.symm)
      go_wp2_with fail
      go_meet
      exact ⟨by rw [HV.out], rfl⟩
    | true =>
      have HV := Lib.hid (show u2 = decide (0 ≤ h) from HU2.out.symm)
      go_wp2_with fail
      go_meet
      exact ⟨by rw [HV.out], rfl⟩
  case rest =>
  obtain ⟨rfl, hwx⟩ := hcut
  subst hwx
  obtain ⟨t4, ht4⟩ : ∃ t, (way == 4) = t := ⟨_, rfl⟩
  have HT4 := Lib.hid ht4
  go_upto_if 49 with fail
  obtain ⟨u3, hu3⟩ : ∃ u3, (if t4 then (g && !ex) else u2) = u3 := ⟨_, rfl⟩
  have HU3 := Lib.hid hu3
  clear hu3 ht4
  obtain ⟨c0, c1, c2, f0, f1, f2⟩ := HK3.out.three
  go_cut [11] from 11 to 56 (fun s11 wx => s11 = .bool u3 ∧ w3 = wx)
  case first =>
    cases t4 with
    | false =>
      have HV := Lib.hid (show u3 = u2 from HU3.out.symm)
      go_wp2_with fail
      go_meet
      exact ⟨by rw [HV.out], rfl⟩
    | true =>
      have HV := Lib.hid (show u3 = (g && !ex) from HU3.out.symm)
      cases g with
      | false =>
        go_wp2_with fail
        go_meet
        exact ⟨by rw [HV.out] <;> rfl, rfl⟩
      | true =>
        cases ex with
        | false =>
          go_wp2_with fail
          go_meet
          exact ⟨by rw [HV.out] <;> rfl, rfl⟩
        | true =>
          go_wp2_with fail
          go_meet
          exact ⟨by rw [HV.out] <;> rfl, rfl⟩
  case rest =>
  obtain ⟨rfl, hwx⟩ := hcut
  subst hwx
  obtain ⟨t5, ht5⟩ : ∃ t, (way == 5) = t := ⟨_, rfl⟩
  have HT5 := Lib.hid ht5
  go_upto_if 57 with fail
  obtain ⟨u4, hu4⟩ : ∃ u4, (if t5 then (!g && !ex) else u3) = u4 := ⟨_, rfl⟩
  have HU4 := Lib.hid hu4
  clear hu4 ht5
  go_cut [11] from 11 to 65 (fun s11 wx => s11 = .bool u4 ∧ w3 = wx)
  case first =>
    cases t5 with
    | false =>
      have HV := Lib.hid (show u4 = u3 from HU4.out.symm)
      go_wp2_with fail
      go_meet
      exact ⟨by rw [HV.out], rfl⟩
    | true =>
      have HV := Lib.hid (show u4 = (!g && !ex) from HU4.out.symm)
      cases g with
      | true =>
        go_wp2_with fail
        go_meet
        exact ⟨by rw [HV.out] <;> rfl, rfl⟩
      | false =>
        cases ex with
        | false =>
          go_wp2_with fail
          go_meet
          exact ⟨by rw [HV.out] <;> rfl, rfl⟩
        | true =>
          go_wp2_with fail
          go_meet
          exact ⟨by rw [HV.out] <;> rfl, rfl⟩
  case rest =>
  obtain ⟨rfl, hwx⟩ := hcut
  subst hwx
  have HUP : Hid (upR g F ex h way = u4) := Lib.hid (by
    rw [← HU4.out, ← HU3.out, ← HU2.out, ← HU1.out, ← HT.out, ← HTT.out, ← HT4.out, ← HT5.out]
    unfold upR
    by_cases w1 : way = 1
    · subst w1; rfl
    by_cases w2 : way = 2
    · subst w2; rfl
    by_cases w4 : way = 4
    · subst w4; rfl
    by_cases w5 : way = 5
    · subst w5; rfl
    rw [if_neg w1, if_neg w2, if_neg w4, if_neg w5, show (way == 1) = false by simpa using w1, show (way == 2) = false by simpa using w2, show (way == 4) = false by simpa using w4, show (way == 5) = false by simpa using w5]
    rfl)
  have HR2 : Hid (R = endP g (if u4 then F + 1 else F)) := Lib.hid (by rw [HR.out, HUP.out])
  obtain ⟨b, hb⟩ : ∃ b, (if u4 then F + 1 else F) = b := ⟨_, rfl⟩
  rw [hb] at HR2
  have HBE := Lib.hid hb
  have HBM : Hid (b ≤ most + 1) := Lib.hid (by rw [← HBE.out]; have := HFM.out; split <;> omega)
  clear hb HUP HR HU1 HU2 HU3 HU4 HT HTT HT4 HT5
  go_upto_if 65 with fail
  go_cut [6] from 6 to 68 (fun s6 wx => s6 = .int .u64 b ∧ w3 = wx)
  case first =>
    obtain ⟨F1, hF1⟩ : ∃ F1, F + 1 = F1 := ⟨_, rfl⟩
    have k1 : (F : Int) + 1 = (F1 : Int) := by omega
    have k1' : IntKind.u64.wrap ((F : Int) + 1) = (F1 : Int) := by rw [k1]; exact wrapN _ (by unfold W64; omega)
    rw [hF1] at HBE
    clear hF1
    cases u4 with
    | true =>
      have HV := Lib.hid (show b = F1 from HBE.out.symm)
      go_wp2_with fail
      go_meet
      exact ⟨by rw [HV.out], rfl⟩
    | false =>
      have HV := Lib.hid (show b = F from HBE.out.symm)
      go_wp2_with fail
      go_meet
      exact ⟨by rw [HV.out], rfl⟩
  case rest =>
  obtain ⟨rfl, hwx⟩ := hcut
  subst hwx
  have hbI : (b : Int) ≤ 9218868437227405312 := by have := HBM.out; unfold most at this; omega
  by_cases hbm : most < b
  · have HRN := Lib.hid (show R = none by rw [HR2.out]; exact endP_none hbm)
    have t1 : decide ((9218868437227405311 : Int) < (b : Int)) = true := decide_eq_true (by unfold most at hbm; omega)
    have t1' : decide (9218868437227405311 < b) = true := decide_eq_true (by unfold most at hbm; omega)
    clear hbm
    go_wp2_with fail
    go_ret2
    exact ⟨by rw [HRN.out] <;> rfl, HB3.out⟩
  · have HRS := Lib.hid (show R = some (if g && decide (0 < b) then b + 9223372036854775808 else b) by rw [HR2.out]; exact endP_some hbm)
    have t1 : decide ((9218868437227405311 : Int) < (b : Int)) = false := decide_eq_false (by unfold most at hbm; omega)
    have t1' : decide (9218868437227405311 < b) = false := decide_eq_false (by unfold most at hbm; omega)
    have HBB := Lib.hid hbm
    clear hbm
    cases g with
    | false =>
      have HV := Lib.hid (show R = some b from HRS.out)
      clear HRS
      go_wp2_with fail
      go_ret2
      exact ⟨by rw [HV.out] <;> rfl, HB3.out⟩
    | true =>
      by_cases hb0 : 0 < b
      · have HV := Lib.hid (show R = some (b + 9223372036854775808) by rw [HRS.out, decide_eq_true hb0]; rfl)
        have t2 : decide ((0 : Int) < (b : Int)) = true := decide_eq_true (by omega)
        have t2' : decide (0 < b) = true := decide_eq_true hb0
        obtain ⟨B, hB⟩ : ∃ B, b + 9223372036854775808 = B := ⟨_, rfl⟩
        have k1 : (b : Int) + 9223372036854775808 = (B : Int) := by omega
        have k1' : IntKind.u64.wrap ((b : Int) + 9223372036854775808) = (B : Int) := by rw [k1]; exact wrapN _ (by unfold W64; omega)
        rw [hB] at HV
        clear HRS hB hb0
        go_wp2_with fail
        go_ret2
        exact ⟨by rw [HV.out] <;> rfl, HB3.out⟩
      · obtain rfl : b = 0 := by omega
        have HV := Lib.hid (show R = some 0 from HRS.out)
        clear HRS hb0
        go_wp2_with fail
        go_ret2
        exact ⟨by rw [HV.out] <;> rfl, HB3.out⟩

set_option maxRecDepth 1000000 in
theorem rfloat_s (n : Nat) (w : World) (hn : n < 18446744073709551616) (hf : n % 9223372036854775808 ≤ most) :
    Calls Tryz.prog 35 #[.int .u64 n] w fun e w' => e = .returned (.tuple #[.int .u64 (fltM (n % 9223372036854775808) : Nat), .int .i64 (fltK (n % 9223372036854775808))]) ∧ w = w' := by
  have e1 : (n : Int) / 4503599627370496 = ((n / 4503599627370496 : Nat) : Int) := by omega
  have hq0 : n / 4503599627370496 % 2048 = n % 9223372036854775808 / 4503599627370496 := by omega
  have hr0 : n % 4503599627370496 = n % 9223372036854775808 % 4503599627370496 := by omega
  have hq : n % 9223372036854775808 / 4503599627370496 < 2047 := by unfold most at hf; omega
  have e2 : bits .and .u64 ((n / 4503599627370496 : Nat) : Int) 2047 = ((n % 9223372036854775808 / 4503599627370496 : Nat) : Int) := by
    have h := and_low (n / 4503599627370496) 11 (by unfold W64; omega) (by decide)
    rw [show (2 : Nat) ^ 11 = 2048 from rfl, hq0] at h
    exact h
  have e3 : bits .and .u64 (n : Int) 4503599627370495 = ((n % 9223372036854775808 % 4503599627370496 : Nat) : Int) := by
    have h := and_low n 52 (by unfold W64; omega) (by decide)
    rw [show (2 : Nat) ^ 52 = 4503599627370496 from rfl, hr0] at h
    exact h
  have hr : n % 9223372036854775808 % 4503599627370496 < 4503599627370496 := Nat.mod_lt _ (by decide)
  have hbI : (n : Int) ≤ 18446744073709551615 := by omega
  unfold fltM fltK
  clear hq0 hr0 hf hn
  generalize n / 4503599627370496 = z at *
  generalize n % 9223372036854775808 % 4503599627370496 = r at *
  generalize n % 9223372036854775808 / 4503599627370496 = q at *
  have hqI : (q : Int) ≤ 2047 := by omega
  have hrI : (r : Int) < 4503599627370496 := by omega
  by_cases h0 : q = 0
  · subst h0
    rw [if_pos rfl, if_pos rfl]
    have e0 : ((0 : Nat) : Int) = 0 := rfl
    rw [e0] at e2
    clear hr hq hqI e0
    go_enter Tryz.func35, Tryz.ntmps35
    go_wp2_with fail
    exact bodyPost_ret (v := .tuple #[.int .u64 (r : Int), .int .i64 (-1074)]) (by simp [results, Tryz.results35, go_sem]) rfl ⟨rfl, rfl⟩
  · have t : ((q : Int) == 0) = false := by rw [beq_eq_false_iff_ne]; omega
    rw [if_neg h0, if_neg h0]
    have e4 : IntKind.u64.wrap ((r : Int) + 4503599627370496) = ((r + 4503599627370496 : Nat) : Int) := by rw [show (r : Int) + 4503599627370496 = ((r + 4503599627370496 : Nat) : Int) by omega]; exact wrapN _ (by unfold W64; omega)
    have e5 : IntKind.i64.wrap ((q : Int) - 1075) = (q : Int) - 1075 := IntWalk.i64_in _ (by omega)
    clear hr hq h0
    go_enter Tryz.func35, Tryz.ntmps35
    go_wp2_with fail
    exact bodyPost_ret (v := .tuple #[.int .u64 ((r : Int) + 4503599627370496), .int .i64 ((q : Int) - 1075)]) (by simp [results, Tryz.results35, go_sem]) rfl ⟨rfl, rfl⟩

theorem agF_range (d : Dm) (b : Nat) : agF d b = -1 ∨ agF d b = 0 ∨ agF d b = 1 := by
  unfold agF
  split
  · split <;> simp
  · exact cmpI_range _ _
theorem Fl_pos {b : Nat} (h : 0 < b) : 0 < Fl b := by have := Fl_lt (a := 0) (b := b); rw [Fl_zero] at this; exact this.2 h
theorem fsign_at {n : Nat} : fsign n = if n % 9223372036854775808 = 0 ∨ 18446744073709551616 ≤ n then fsign n else if n < 9223372036854775808 then 1 else -1 := by
  split
  · rfl
  · rename_i h
    unfold fsign svI
    by_cases h1 : n < 9223372036854775808
    · have := Fl_pos (b := n) (by omega)
      rw [if_pos h1, if_pos h1, if_neg (by omega), if_neg (by omega)]
    · have := Fl_pos (b := n - 9223372036854775808) (by omega)
      rw [if_neg h1, if_neg h1, if_pos (by omega)]
theorem fsign_nought {n : Nat} (hn : n < 18446744073709551616) (h : n % 9223372036854775808 = 0) : fsign n = 0 := by
  have : n = 0 ∨ n = 9223372036854775808 := by omega
  rcases this with rfl | rfl <;> rfl

end Go.Proofs.YtjggmdlecdbeeaaGreatDoor
