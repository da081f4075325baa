/- The walk of WideRing. -/
import Derived.Test.YtnghcpgdfkchdaaDoorWideN
import Derived.Test.YtnghcpgdfkchdaaDoorFourE
import Derived.Deep.DeepCutAuto
import Derived.IntWalk
namespace Go.Proofs.YtnghcpgdfkchdaaDoor.wideRing
open Go.RowKit
attribute [local go_sem] SGives_value SGives_skip SGives_enter CGives_value CGives_skip CGives_enter MGives_value MGives_skip MGives_enter
set_option linter.unusedSimpArgs false
set_option linter.unusedVariables false

set_option maxRecDepth 100000 in
set_option maxHeartbeats 4000000 in
theorem walkK (ph pl qh ql sh sl th tl ah al bh bl ch cl mh ml xh xl uh ul lh ll z y : Nat) (n : Int) (o o2 : Bool) (C1 C2 C3 C4 : Int) (w : World)
    (K1 : Go.RowKit.Hid (∀ W, Calls Tryd.prog 22 #[.agg #[wv ph, wv pl], .agg #[wv qh, wv ql]] W fun e w' => e = .returned (.tuple #[.agg #[wv sh, wv sl], .bool o]) ∧ Below W.heap.size W w'))
    (K2 : Go.RowKit.Hid (∀ W, Calls Tryd.prog 23 #[.agg #[wv sh, wv sl], .agg #[wv qh, wv ql]] W fun e w' => e = .returned (.tuple #[.agg #[wv ph, wv pl], .bool o]) ∧ Below W.heap.size W w'))
    (K3 : Go.RowKit.Hid (∀ W, Calls Tryd.prog 24 #[.agg #[wv sh, wv sl], .agg #[wv ph, wv pl]] W fun e w' => e = .returned (.int .i64 C1) ∧ Below W.heap.size W w'))
    (K4 : Go.RowKit.Hid (∀ W, Calls Tryd.prog 22 #[.agg #[wv ph, wv pl], .agg #[wv ph, wv pl]] W fun e w' => e = .returned (.tuple #[.agg #[wv th, wv tl], .bool o2]) ∧ Below W.heap.size W w'))
    (K5 : Go.RowKit.Hid (∀ W, Calls Tryd.prog 25 #[.agg #[wv ph, wv pl], .int .i64 1] W fun e w' => e = .returned (.agg #[wv th, wv tl]) ∧ Below W.heap.size W w'))
    (K6 : Go.RowKit.Hid (∀ W, Calls Tryd.prog 25 #[.agg #[wv ph, wv pl], .int .i64 n] W fun e w' => e = .returned (.agg #[wv ah, wv al]) ∧ Below W.heap.size W w'))
    (K7 : Go.RowKit.Hid (∀ W, Calls Tryd.prog 25 #[.agg #[wv ah, wv al], .int .i64 1] W fun e w' => e = .returned (.agg #[wv bh, wv bl]) ∧ Below W.heap.size W w'))
    (K8 : Go.RowKit.Hid (∀ W, Calls Tryd.prog 25 #[.agg #[wv th, wv tl], .int .i64 n] W fun e w' => e = .returned (.agg #[wv bh, wv bl]) ∧ Below W.heap.size W w'))
    (K9 : Go.RowKit.Hid (∀ W, Calls Tryd.prog 26 #[.agg #[wv ph, wv pl], .int .i64 n] W fun e w' => e = .returned (.agg #[wv ch, wv cl]) ∧ Below W.heap.size W w'))
    (K10 : Go.RowKit.Hid (∀ W, Calls Tryd.prog 24 #[.agg #[wv ch, wv cl], .agg #[wv ph, wv pl]] W fun e w' => e = .returned (.int .i64 C2) ∧ Below W.heap.size W w'))
    (K11 : Go.RowKit.Hid (∀ W, Calls Tryd.prog 24 #[.agg #[wv ph, wv pl], .agg #[wv qh, wv ql]] W fun e w' => e = .returned (.int .i64 C3) ∧ Below W.heap.size W w'))
    (K12 : Go.RowKit.Hid (∀ W, Calls Tryd.prog 24 #[.agg #[wv qh, wv ql], .agg #[wv ph, wv pl]] W fun e w' => e = .returned (.int .i64 C4) ∧ Below W.heap.size W w'))
    (K13 : Go.RowKit.Hid (∀ W, Calls Tryd.prog 27 #[wv pl, wv ql] W fun e w' => e = .returned (.agg #[wv mh, wv ml]) ∧ Below W.heap.size W w'))
    (K14 : Go.RowKit.Hid (∀ W, Calls Tryd.prog 27 #[wv ql, wv pl] W fun e w' => e = .returned (.agg #[wv mh, wv ml]) ∧ Below W.heap.size W w'))
    (K15 : Go.RowKit.Hid (∀ W, Calls Tryd.prog 27 #[wv pl, wv z] W fun e w' => e = .returned (.agg #[wv xh, wv xl]) ∧ Below W.heap.size W w'))
    (K16 : Go.RowKit.Hid (∀ W, Calls Tryd.prog 25 #[.agg #[wv xh, wv xl], .int .i64 32] W fun e w' => e = .returned (.agg #[wv uh, wv ul]) ∧ Below W.heap.size W w'))
    (K17 : Go.RowKit.Hid (∀ W, Calls Tryd.prog 27 #[wv pl, wv y] W fun e w' => e = .returned (.agg #[wv lh, wv ll]) ∧ Below W.heap.size W w'))
    (K18 : Go.RowKit.Hid (∀ W, Calls Tryd.prog 22 #[.agg #[wv uh, wv ul], .agg #[wv lh, wv ll]] W fun e w' => e = .returned (.tuple #[.agg #[wv mh, wv ml], .bool false]) ∧ Below W.heap.size W w'))
    (d1 : decide (C1 < 0) = o) (d2 : decide (0 < C2) = false) (d3 : IntKind.i64.wrap C3 = C3) (d3' : -C4 = C3) (e1 : (ql : Int) / 4294967296 = (z : Int)) (e2 : bits .and .u64 (ql : Int) 4294967295 = (y : Int)) (hoo : (o != o) = false) (hc3 : (C3 != C3) = false) :
    Calls Tryd.prog 5 #[.agg #[wv ph, wv pl, wv qh, wv ql, .int .i64 n]] w fun e w' => e = .returned (.bool true) ∧ Below w.heap.size w w' := by
  go_enter Tryd.func5, Tryd.ntmps5
  go_upto_region 1 with fail
  go_cut [3, 4, 5, 6, 7] from 18 to 33 (fun s3 s4 s5 s6 s7 wx => ∃ g3 g4 : Nat, s3 = .pointer (some ⟨g3, 0, none⟩) ∧ s4 = .pointer (some ⟨g4, 0, none⟩) ∧ s5 = .int .i64 n ∧ s6 = wv pl ∧ s7 = wv ql ∧ Blk wx g3 24 #[wv ph, wv pl] ∧ Blk wx g4 24 #[wv qh, wv ql] ∧ Below w.heap.size w wx)
  case first =>
    have SDL : w.heap.size ≤ w.heap.size := by first | exact Nat.le_refl _ | omega | (simp; done)
    obtain ⟨S, SD⟩ : ∃ S : World → Prop, Go.RowKit.Hid (∀ w' : World, S w' ↔ (Blk w' w.heap.size 49 #[wv ph, wv pl, wv qh, wv ql, .int .i64 n] ∧ Below w.heap.size w w')) := ⟨_, Lib.hid (fun _ => Iff.rfl)⟩
    refine wp_region_way (S := S) (by kernel_rfl) (by kernel_rfl) (fun W W' h hb => by obtain ⟨h0, hB⟩ := (SD.out _).1 h; exact (SD.out _).2 ⟨h0.st hb, hB.trans (hb.mono (Nat.le_trans SDL hB.size))⟩) ((SD.out _).2 (⟨Blk.new w _ _, ((Below.refl _ w).alloc (Nat.le_refl _) _).drew⟩)) ?_
    first
      | (refine Way.no 0 (by rfl) (by kernel_rfl) (by rfl) ?_; simp only [Act.put, List.setIfInBounds_toArray, List.set_cons_zero, List.set_cons_succ])
      | (refine' Way.yes 0 (by rfl) (by kernel_rfl) (by rfl) (fun wS hS => ?_) ?_
         rotate_left
         · have hS' := (SD.out _).1 hS
           obtain ⟨hb0, hB⟩ := hS'
           have c0_0 := hb0.cell 0
           have c0_1 := hb0.cell 1
           have c0_2 := hb0.cell 2
           have c0_3 := hb0.cell 3
           have c0_4 := hb0.cell 4
           go_simp
           first
             | exact ⟨rfl, Below.refl _ _⟩
         simp only [Act.put, List.setIfInBounds_toArray, List.set_cons_zero, List.set_cons_succ])
    first
      | (refine Way.no 1 (by rfl) (by kernel_rfl) (by rfl) ?_; simp only [Act.put, List.setIfInBounds_toArray, List.set_cons_zero, List.set_cons_succ])
      | (refine' Way.yes 1 (by rfl) (by kernel_rfl) (by rfl) (fun wS hS => ?_) ?_
         rotate_left
         · have hS' := (SD.out _).1 hS
           obtain ⟨hb0, hB⟩ := hS'
           have c0_0 := hb0.cell 0
           have c0_1 := hb0.cell 1
           have c0_2 := hb0.cell 2
           have c0_3 := hb0.cell 3
           have c0_4 := hb0.cell 4
           go_simp
           first
             | exact ⟨rfl, Below.refl _ _⟩
         simp only [Act.put, List.setIfInBounds_toArray, List.set_cons_zero, List.set_cons_succ])
    first
      | (refine Way.no 2 (by rfl) (by kernel_rfl) (by rfl) ?_; simp only [Act.put, List.setIfInBounds_toArray, List.set_cons_zero, List.set_cons_succ])
      | (refine' Way.yes 2 (by rfl) (by kernel_rfl) (by rfl) (fun wS hS => ?_) ?_
         rotate_left
         · have hS' := (SD.out _).1 hS
           obtain ⟨hb0, hB⟩ := hS'
           have c0_0 := hb0.cell 0
           have c0_1 := hb0.cell 1
           have c0_2 := hb0.cell 2
           have c0_3 := hb0.cell 3
           have c0_4 := hb0.cell 4
           go_simp
           first
             | exact ⟨rfl, Below.refl _ _⟩
         simp only [Act.put, List.setIfInBounds_toArray, List.set_cons_zero, List.set_cons_succ])
    first
      | (refine Way.no 3 (by rfl) (by kernel_rfl) (by rfl) ?_; simp only [Act.put, List.setIfInBounds_toArray, List.set_cons_zero, List.set_cons_succ])
      | (refine' Way.yes 3 (by rfl) (by kernel_rfl) (by rfl) (fun wS hS => ?_) ?_
         rotate_left
         · have hS' := (SD.out _).1 hS
           obtain ⟨hb0, hB⟩ := hS'
           have c0_0 := hb0.cell 0
           have c0_1 := hb0.cell 1
           have c0_2 := hb0.cell 2
           have c0_3 := hb0.cell 3
           have c0_4 := hb0.cell 4
           go_simp
           first
             | exact ⟨rfl, Below.refl _ _⟩
         simp only [Act.put, List.setIfInBounds_toArray, List.set_cons_zero, List.set_cons_succ])
    first
      | (refine Way.no 4 (by rfl) (by kernel_rfl) (by rfl) ?_; simp only [Act.put, List.setIfInBounds_toArray, List.set_cons_zero, List.set_cons_succ])
      | (refine' Way.yes 4 (by rfl) (by kernel_rfl) (by rfl) (fun wS hS => ?_) ?_
         rotate_left
         · have hS' := (SD.out _).1 hS
           obtain ⟨hb0, hB⟩ := hS'
           have c0_0 := hb0.cell 0
           have c0_1 := hb0.cell 1
           have c0_2 := hb0.cell 2
           have c0_3 := hb0.cell 3
           have c0_4 := hb0.cell 4
           go_simp
           first
             | exact ⟨rfl, Below.refl _ _⟩
         simp only [Act.put, List.setIfInBounds_toArray, List.set_cons_zero, List.set_cons_succ])
    first
      | (refine Way.no 5 (by rfl) (by kernel_rfl) (by rfl) ?_; simp only [Act.put, List.setIfInBounds_toArray, List.set_cons_zero, List.set_cons_succ])
      | (refine' Way.yes 5 (by rfl) (by kernel_rfl) (by rfl) (fun wS hS => ?_) ?_
         rotate_left
         · have hS' := (SD.out _).1 hS
           obtain ⟨hb0, hB⟩ := hS'
           have c0_0 := hb0.cell 0
           have c0_1 := hb0.cell 1
           have c0_2 := hb0.cell 2
           have c0_3 := hb0.cell 3
           have c0_4 := hb0.cell 4
           go_simp
           first
             | exact ⟨rfl, Below.refl _ _⟩
         simp only [Act.put, List.setIfInBounds_toArray, List.set_cons_zero, List.set_cons_succ])
    first
      | (refine Way.no 6 (by rfl) (by kernel_rfl) (by rfl) ?_; simp only [Act.put, List.setIfInBounds_toArray, List.set_cons_zero, List.set_cons_succ])
      | (refine' Way.yes 6 (by rfl) (by kernel_rfl) (by rfl) (fun wS hS => ?_) ?_
         rotate_left
         · have hS' := (SD.out _).1 hS
           obtain ⟨hb0, hB⟩ := hS'
           have c0_0 := hb0.cell 0
           have c0_1 := hb0.cell 1
           have c0_2 := hb0.cell 2
           have c0_3 := hb0.cell 3
           have c0_4 := hb0.cell 4
           go_simp
           first
             | exact ⟨rfl, Below.refl _ _⟩
         simp only [Act.put, List.setIfInBounds_toArray, List.set_cons_zero, List.set_cons_succ])
    first
      | (refine Way.no 7 (by rfl) (by kernel_rfl) (by rfl) ?_; simp only [Act.put, List.setIfInBounds_toArray, List.set_cons_zero, List.set_cons_succ])
      | (refine' Way.yes 7 (by rfl) (by kernel_rfl) (by rfl) (fun wS hS => ?_) ?_
         rotate_left
         · have hS' := (SD.out _).1 hS
           obtain ⟨hb0, hB⟩ := hS'
           have c0_0 := hb0.cell 0
           have c0_1 := hb0.cell 1
           have c0_2 := hb0.cell 2
           have c0_3 := hb0.cell 3
           have c0_4 := hb0.cell 4
           go_simp
           first
             | exact ⟨rfl, Below.refl _ _⟩
         simp only [Act.put, List.setIfInBounds_toArray, List.set_cons_zero, List.set_cons_succ])
    first
      | (refine Way.no 8 (by rfl) (by kernel_rfl) (by rfl) ?_; simp only [Act.put, List.setIfInBounds_toArray, List.set_cons_zero, List.set_cons_succ])
      | (refine' Way.yes 8 (by rfl) (by kernel_rfl) (by rfl) (fun wS hS => ?_) ?_
         rotate_left
         · have hS' := (SD.out _).1 hS
           obtain ⟨hb0, hB⟩ := hS'
           have c0_0 := hb0.cell 0
           have c0_1 := hb0.cell 1
           have c0_2 := hb0.cell 2
           have c0_3 := hb0.cell 3
           have c0_4 := hb0.cell 4
           go_simp
           first
             | exact ⟨rfl, Below.refl _ _⟩
         simp only [Act.put, List.setIfInBounds_toArray, List.set_cons_zero, List.set_cons_succ])
    first
      | (refine Way.no 9 (by rfl) (by kernel_rfl) (by rfl) ?_; simp only [Act.put, List.setIfInBounds_toArray, List.set_cons_zero, List.set_cons_succ])
      | (refine' Way.yes 9 (by rfl) (by kernel_rfl) (by rfl) (fun wS hS => ?_) ?_
         rotate_left
         · have hS' := (SD.out _).1 hS
           obtain ⟨hb0, hB⟩ := hS'
           have c0_0 := hb0.cell 0
           have c0_1 := hb0.cell 1
           have c0_2 := hb0.cell 2
           have c0_3 := hb0.cell 3
           have c0_4 := hb0.cell 4
           go_simp
           first
             | exact ⟨rfl, Below.refl _ _⟩
         simp only [Act.put, List.setIfInBounds_toArray, List.set_cons_zero, List.set_cons_succ])
    first
      | (refine Way.no 10 (by rfl) (by kernel_rfl) (by rfl) ?_; simp only [Act.put, List.setIfInBounds_toArray, List.set_cons_zero, List.set_cons_succ])
      | (refine' Way.yes 10 (by rfl) (by kernel_rfl) (by rfl) (fun wS hS => ?_) ?_
         rotate_left
         · have hS' := (SD.out _).1 hS
           obtain ⟨hb0, hB⟩ := hS'
           have c0_0 := hb0.cell 0
           have c0_1 := hb0.cell 1
           have c0_2 := hb0.cell 2
           have c0_3 := hb0.cell 3
           have c0_4 := hb0.cell 4
           go_simp
           first
             | exact ⟨rfl, Below.refl _ _⟩
         simp only [Act.put, List.setIfInBounds_toArray, List.set_cons_zero, List.set_cons_succ])
    first
      | (refine Way.no 11 (by rfl) (by kernel_rfl) (by rfl) ?_; simp only [Act.put, List.setIfInBounds_toArray, List.set_cons_zero, List.set_cons_succ])
      | (refine' Way.yes 11 (by rfl) (by kernel_rfl) (by rfl) (fun wS hS => ?_) ?_
         rotate_left
         · have hS' := (SD.out _).1 hS
           obtain ⟨hb0, hB⟩ := hS'
           have c0_0 := hb0.cell 0
           have c0_1 := hb0.cell 1
           have c0_2 := hb0.cell 2
           have c0_3 := hb0.cell 3
           have c0_4 := hb0.cell 4
           go_simp
           first
             | exact ⟨rfl, Below.refl _ _⟩
         simp only [Act.put, List.setIfInBounds_toArray, List.set_cons_zero, List.set_cons_succ])
    first
      | (refine Way.no 12 (by rfl) (by kernel_rfl) (by rfl) ?_; simp only [Act.put, List.setIfInBounds_toArray, List.set_cons_zero, List.set_cons_succ])
      | (refine' Way.yes 12 (by rfl) (by kernel_rfl) (by rfl) (fun wS hS => ?_) ?_
         rotate_left
         · have hS' := (SD.out _).1 hS
           obtain ⟨hb0, hB⟩ := hS'
           have c0_0 := hb0.cell 0
           have c0_1 := hb0.cell 1
           have c0_2 := hb0.cell 2
           have c0_3 := hb0.cell 3
           have c0_4 := hb0.cell 4
           go_simp
           first
             | exact ⟨rfl, Below.refl _ _⟩
         simp only [Act.put, List.setIfInBounds_toArray, List.set_cons_zero, List.set_cons_succ])
    first
      | (refine Way.no 13 (by rfl) (by kernel_rfl) (by rfl) ?_; simp only [Act.put, List.setIfInBounds_toArray, List.set_cons_zero, List.set_cons_succ])
      | (refine' Way.yes 13 (by rfl) (by kernel_rfl) (by rfl) (fun wS hS => ?_) ?_
         rotate_left
         · have hS' := (SD.out _).1 hS
           obtain ⟨hb0, hB⟩ := hS'
           have c0_0 := hb0.cell 0
           have c0_1 := hb0.cell 1
           have c0_2 := hb0.cell 2
           have c0_3 := hb0.cell 3
           have c0_4 := hb0.cell 4
           go_simp
           first
             | exact ⟨rfl, Below.refl _ _⟩
         simp only [Act.put, List.setIfInBounds_toArray, List.set_cons_zero, List.set_cons_succ])
    first
      | (refine Way.no 14 (by rfl) (by kernel_rfl) (by rfl) ?_; simp only [Act.put, List.setIfInBounds_toArray, List.set_cons_zero, List.set_cons_succ])
      | (refine' Way.yes 14 (by rfl) (by kernel_rfl) (by rfl) (fun wS hS => ?_) ?_
         rotate_left
         · have hS' := (SD.out _).1 hS
           obtain ⟨hb0, hB⟩ := hS'
           have c0_0 := hb0.cell 0
           have c0_1 := hb0.cell 1
           have c0_2 := hb0.cell 2
           have c0_3 := hb0.cell 3
           have c0_4 := hb0.cell 4
           go_simp
           first
             | exact ⟨rfl, Below.refl _ _⟩
         simp only [Act.put, List.setIfInBounds_toArray, List.set_cons_zero, List.set_cons_succ])
    first
      | (refine Way.no 15 (by rfl) (by kernel_rfl) (by rfl) ?_; simp only [Act.put, List.setIfInBounds_toArray, List.set_cons_zero, List.set_cons_succ])
      | (refine' Way.yes 15 (by rfl) (by kernel_rfl) (by rfl) (fun wS hS => ?_) ?_
         rotate_left
         · have hS' := (SD.out _).1 hS
           obtain ⟨hb0, hB⟩ := hS'
           have c0_0 := hb0.cell 0
           have c0_1 := hb0.cell 1
           have c0_2 := hb0.cell 2
           have c0_3 := hb0.cell 3
           have c0_4 := hb0.cell 4
           go_simp
           first
             | exact ⟨rfl, Below.refl _ _⟩
         simp only [Act.put, List.setIfInBounds_toArray, List.set_cons_zero, List.set_cons_succ])
    refine Way.move2 16 17 (by rfl) (by rfl) (by kernel_rfl) (by rfl) (by rfl) (fun W3 hS => ?_) (fun W4 hS => ?_)
    · have hS' := (SD.out _).1 hS
      obtain ⟨hb0, hB⟩ := hS'
      have c0_0 := hb0.cell 0
      have c0_1 := hb0.cell 1
      have c0_2 := hb0.cell 2
      have c0_3 := hb0.cell 3
      have c0_4 := hb0.cell 4
      have lt_W3_0 := hb0.lt
      go_simp
      obtain ⟨S_1, SD_1⟩ : ∃ S_1 : World → Prop, Go.RowKit.Hid (∀ x : World, S_1 x ↔ (Blk x w.heap.size 49 #[wv ph, wv pl, wv qh, wv ql, .int .i64 n] ∧ (∃ u0 u1, Blk x W3.heap.size 24 #[u0, u1]) ∧ Below w.heap.size w x)) := ⟨_, Lib.hid (fun _ => Iff.rfl)⟩
      have hst : Stays S_1 := fun W W' h hb => by obtain ⟨h0, ⟨u1_0, u1_1, h1⟩, hB⟩ := (SD_1.out _).1 h; exact (SD_1.out _).2 ⟨h0.st hb, ⟨u1_0, u1_1, h1.st hb⟩, hB.trans (hb.mono (Nat.le_trans SDL hB.size))⟩
      have hle : ∀ x, S_1 x → S x := fun x h => by obtain ⟨h0, ⟨u1_0, u1_1, h1⟩, hB⟩ := (SD_1.out _).1 h; exact (SD.out _).2 ⟨h0, hB⟩
      refine ⟨S_1, hst, hle, (SD_1.out _).2 ⟨hb0.alloc _, ⟨_, _, Blk.new W3 _ _⟩, hB.alloc (Nat.le_trans SDL hB.size) _⟩, ?_⟩
      try simp only [Act.put, List.setIfInBounds_toArray, List.set_cons_zero, List.set_cons_succ]
      refine Way.move 17 (by rfl) (by kernel_rfl) (by rfl) (fun W4 hS => ?_)
      have hS' := (SD_1.out _).1 hS
      obtain ⟨hb0, ⟨u1_0, u1_1, hb1⟩, hB⟩ := hS'
      have c0_0 := hb0.cell 0
      have c0_1 := hb0.cell 1
      have c0_2 := hb0.cell 2
      have c0_3 := hb0.cell 3
      have c0_4 := hb0.cell 4
      have c1_0 := hb1.cell 0
      have c1_1 := hb1.cell 1
      have lt_W4_0 := hb0.lt
      have lt_W4_1 := hb1.lt
      go_simp
      obtain ⟨S_2, SD_2⟩ : ∃ S_2 : World → Prop, Go.RowKit.Hid (∀ x : World, S_2 x ↔ (Blk x w.heap.size 49 #[wv ph, wv pl, wv qh, wv ql, .int .i64 n] ∧ (∃ u0 u1, Blk x W3.heap.size 24 #[u0, u1]) ∧ (∃ u0 u1, Blk x W4.heap.size 24 #[u0, u1]) ∧ Below w.heap.size w x)) := ⟨_, Lib.hid (fun _ => Iff.rfl)⟩
      have hst : Stays S_2 := fun W W' h hb => by obtain ⟨h0, ⟨u1_0, u1_1, h1⟩, ⟨u2_0, u2_1, h2⟩, hB⟩ := (SD_2.out _).1 h; exact (SD_2.out _).2 ⟨h0.st hb, ⟨u1_0, u1_1, h1.st hb⟩, ⟨u2_0, u2_1, h2.st hb⟩, hB.trans (hb.mono (Nat.le_trans SDL hB.size))⟩
      have hle : ∀ x, S_2 x → S_1 x := fun x h => by obtain ⟨h0, ⟨u1_0, u1_1, h1⟩, ⟨u2_0, u2_1, h2⟩, hB⟩ := (SD_2.out _).1 h; exact (SD_1.out _).2 ⟨h0, ⟨u1_0, u1_1, h1⟩, hB⟩
      refine ⟨S_2, hst, hle, (SD_2.out _).2 ⟨hb0.alloc _, ⟨u1_0, u1_1, hb1.alloc _⟩, ⟨_, _, Blk.new W4 _ _⟩, hB.alloc (Nat.le_trans SDL hB.size) _⟩, ?_⟩
      try simp only [Act.put, List.setIfInBounds_toArray, List.set_cons_zero, List.set_cons_succ]
      refine Way.move 18 (by rfl) (by kernel_rfl) (by rfl) (fun wS hS => ?_)
      have hS' := (SD_2.out _).1 hS
      obtain ⟨hb0, ⟨u1_0, u1_1, hb1⟩, ⟨u2_0, u2_1, hb2⟩, hB⟩ := hS'
      have c0_0 := hb0.cell 0
      have c0_1 := hb0.cell 1
      have c0_2 := hb0.cell 2
      have c0_3 := hb0.cell 3
      have c0_4 := hb0.cell 4
      have c1_0 := hb1.cell 0
      have c1_1 := hb1.cell 1
      have c2_0 := hb2.cell 0
      have c2_1 := hb2.cell 1
      have f1_0 := hb1.frozen 0
      have f1_1 := hb1.frozen 1
      go_simp
      obtain ⟨S_3, SD_3⟩ : ∃ S_3 : World → Prop, Go.RowKit.Hid (∀ x : World, S_3 x ↔ (Blk x w.heap.size 49 #[wv ph, wv pl, wv qh, wv ql, .int .i64 n] ∧ Blk x W3.heap.size 24 #[wv ph, wv pl] ∧ (∃ u0 u1, Blk x W4.heap.size 24 #[u0, u1]) ∧ Below w.heap.size w x)) := ⟨_, Lib.hid (fun _ => Iff.rfl)⟩
      have hst : Stays S_3 := fun W W' h hb => by obtain ⟨h0, h1, ⟨u2_0, u2_1, h2⟩, hB⟩ := (SD_3.out _).1 h; exact (SD_3.out _).2 ⟨h0.st hb, h1.st hb, ⟨u2_0, u2_1, h2.st hb⟩, hB.trans (hb.mono (Nat.le_trans SDL hB.size))⟩
      have hle : ∀ x, S_3 x → S_2 x := fun x h => by obtain ⟨h0, h1, ⟨u2_0, u2_1, h2⟩, hB⟩ := (SD_3.out _).1 h; exact (SD_2.out _).2 ⟨h0, ⟨_, _, h1⟩, ⟨u2_0, u2_1, h2⟩, hB⟩
      refine ⟨S_3, hst, hle, (SD_3.out _).2 ⟨((hb0.far (by first | (simp; done) | (simp; omega)) _).far (by first | (simp; done) | (simp; omega)) _), ((hb1.set1 0 _).set1 1 _), ⟨u2_0, u2_1, ((hb2.far (by first | (simp; done) | (simp; omega)) _).far (by first | (simp; done) | (simp; omega)) _)⟩, ((hB.setCell (by first | (simp; done) | (simp; omega)) _).setCell (by first | (simp; done) | (simp; omega)) _)⟩, ?_⟩
      try simp only [Act.put, List.setIfInBounds_toArray, List.set_cons_zero, List.set_cons_succ]
      refine Way.move 19 (by rfl) (by kernel_rfl) (by rfl) (fun wS hS => ?_)
      have hS' := (SD_3.out _).1 hS
      obtain ⟨hb0, hb1, ⟨u2_0, u2_1, hb2⟩, hB⟩ := hS'
      have c0_0 := hb0.cell 0
      have c0_1 := hb0.cell 1
      have c0_2 := hb0.cell 2
      have c0_3 := hb0.cell 3
      have c0_4 := hb0.cell 4
      have c1_0 := hb1.cell 0
      have c1_1 := hb1.cell 1
      have c2_0 := hb2.cell 0
      have c2_1 := hb2.cell 1
      have f2_0 := hb2.frozen 0
      have f2_1 := hb2.frozen 1
      go_simp
      obtain ⟨S_4, SD_4⟩ : ∃ S_4 : World → Prop, Go.RowKit.Hid (∀ x : World, S_4 x ↔ (Blk x w.heap.size 49 #[wv ph, wv pl, wv qh, wv ql, .int .i64 n] ∧ Blk x W3.heap.size 24 #[wv ph, wv pl] ∧ Blk x W4.heap.size 24 #[wv qh, wv ql] ∧ Below w.heap.size w x)) := ⟨_, Lib.hid (fun _ => Iff.rfl)⟩
      have hst : Stays S_4 := fun W W' h hb => by obtain ⟨h0, h1, h2, hB⟩ := (SD_4.out _).1 h; exact (SD_4.out _).2 ⟨h0.st hb, h1.st hb, h2.st hb, hB.trans (hb.mono (Nat.le_trans SDL hB.size))⟩
      have hle : ∀ x, S_4 x → S_3 x := fun x h => by obtain ⟨h0, h1, h2, hB⟩ := (SD_4.out _).1 h; exact (SD_3.out _).2 ⟨h0, h1, ⟨_, _, h2⟩, hB⟩
      refine ⟨S_4, hst, hle, (SD_4.out _).2 ⟨((hb0.far (by first | (simp; done) | (simp; omega)) _).far (by first | (simp; done) | (simp; omega)) _), ((hb1.far (by first | (simp; done) | (simp; omega)) _).far (by first | (simp; done) | (simp; omega)) _), ((hb2.set1 0 _).set1 1 _), ((hB.setCell (by first | (simp; done) | (simp; omega)) _).setCell (by first | (simp; done) | (simp; omega)) _)⟩, ?_⟩
      try simp only [Act.put, List.setIfInBounds_toArray, List.set_cons_zero, List.set_cons_succ]
      first
        | (refine Way.no 20 (by rfl) (by kernel_rfl) (by rfl) ?_; simp only [Act.put, List.setIfInBounds_toArray, List.set_cons_zero, List.set_cons_succ])
        | (refine' Way.yes 20 (by rfl) (by kernel_rfl) (by rfl) (fun wS hS => ?_) ?_
           rotate_left
           · have hS' := (SD_4.out _).1 hS
             obtain ⟨hb0, hb1, hb2, hB⟩ := hS'
             have c0_0 := hb0.cell 0
             have c0_1 := hb0.cell 1
             have c0_2 := hb0.cell 2
             have c0_3 := hb0.cell 3
             have c0_4 := hb0.cell 4
             have c1_0 := hb1.cell 0
             have c1_1 := hb1.cell 1
             have c2_0 := hb2.cell 0
             have c2_1 := hb2.cell 1
             go_simp
             first
               | exact ⟨rfl, Below.refl _ _⟩
           simp only [Act.put, List.setIfInBounds_toArray, List.set_cons_zero, List.set_cons_succ])
      first
        | (refine Way.no 21 (by rfl) (by kernel_rfl) (by rfl) ?_; simp only [Act.put, List.setIfInBounds_toArray, List.set_cons_zero, List.set_cons_succ])
        | (refine' Way.yes 21 (by rfl) (by kernel_rfl) (by rfl) (fun wS hS => ?_) ?_
           rotate_left
           · have hS' := (SD_4.out _).1 hS
             obtain ⟨hb0, hb1, hb2, hB⟩ := hS'
             have c0_0 := hb0.cell 0
             have c0_1 := hb0.cell 1
             have c0_2 := hb0.cell 2
             have c0_3 := hb0.cell 3
             have c0_4 := hb0.cell 4
             have c1_0 := hb1.cell 0
             have c1_1 := hb1.cell 1
             have c2_0 := hb2.cell 0
             have c2_1 := hb2.cell 1
             go_simp
             first
               | exact ⟨rfl, Below.refl _ _⟩
           simp only [Act.put, List.setIfInBounds_toArray, List.set_cons_zero, List.set_cons_succ])
      first
        | (refine Way.no 22 (by rfl) (by kernel_rfl) (by rfl) ?_; simp only [Act.put, List.setIfInBounds_toArray, List.set_cons_zero, List.set_cons_succ])
        | (refine' Way.yes 22 (by rfl) (by kernel_rfl) (by rfl) (fun wS hS => ?_) ?_
           rotate_left
           · have hS' := (SD_4.out _).1 hS
             obtain ⟨hb0, hb1, hb2, hB⟩ := hS'
             have c0_0 := hb0.cell 0
             have c0_1 := hb0.cell 1
             have c0_2 := hb0.cell 2
             have c0_3 := hb0.cell 3
             have c0_4 := hb0.cell 4
             have c1_0 := hb1.cell 0
             have c1_1 := hb1.cell 1
             have c2_0 := hb2.cell 0
             have c2_1 := hb2.cell 1
             go_simp
             first
               | exact ⟨rfl, Below.refl _ _⟩
           simp only [Act.put, List.setIfInBounds_toArray, List.set_cons_zero, List.set_cons_succ])
      refine Way.done (by kernel_rfl) (fun wE hS => ?_)
      have hS' := (SD_4.out _).1 hS
      obtain ⟨hb0, hb1, hb2, hB⟩ := hS'
      have c0_0 := hb0.cell 0
      have c0_1 := hb0.cell 1
      have c0_2 := hb0.cell 2
      have c0_3 := hb0.cell 3
      have c0_4 := hb0.cell 4
      have c1_0 := hb1.cell 0
      have c1_1 := hb1.cell 1
      have c2_0 := hb2.cell 0
      have c2_1 := hb2.cell 1
      clear hS
      go_wp2_with fail
      go_meet
      exact ⟨_, _, rfl, rfl, rfl, rfl, rfl, hb1, hb2, hB⟩
    · have hS' := (SD.out _).1 hS
      obtain ⟨hb0, hB⟩ := hS'
      have c0_0 := hb0.cell 0
      have c0_1 := hb0.cell 1
      have c0_2 := hb0.cell 2
      have c0_3 := hb0.cell 3
      have c0_4 := hb0.cell 4
      have lt_W4_0 := hb0.lt
      go_simp
      obtain ⟨S_1, SD_1⟩ : ∃ S_1 : World → Prop, Go.RowKit.Hid (∀ x : World, S_1 x ↔ (Blk x w.heap.size 49 #[wv ph, wv pl, wv qh, wv ql, .int .i64 n] ∧ (∃ u0 u1, Blk x W4.heap.size 24 #[u0, u1]) ∧ Below w.heap.size w x)) := ⟨_, Lib.hid (fun _ => Iff.rfl)⟩
      have hst : Stays S_1 := fun W W' h hb => by obtain ⟨h0, ⟨u1_0, u1_1, h1⟩, hB⟩ := (SD_1.out _).1 h; exact (SD_1.out _).2 ⟨h0.st hb, ⟨u1_0, u1_1, h1.st hb⟩, hB.trans (hb.mono (Nat.le_trans SDL hB.size))⟩
      have hle : ∀ x, S_1 x → S x := fun x h => by obtain ⟨h0, ⟨u1_0, u1_1, h1⟩, hB⟩ := (SD_1.out _).1 h; exact (SD.out _).2 ⟨h0, hB⟩
      refine ⟨S_1, hst, hle, (SD_1.out _).2 ⟨hb0.alloc _, ⟨_, _, Blk.new W4 _ _⟩, hB.alloc (Nat.le_trans SDL hB.size) _⟩, ?_⟩
      try simp only [Act.put, List.setIfInBounds_toArray, List.set_cons_zero, List.set_cons_succ]
      refine Way.move 16 (by rfl) (by kernel_rfl) (by rfl) (fun W3 hS => ?_)
      have hS' := (SD_1.out _).1 hS
      obtain ⟨hb0, ⟨u1_0, u1_1, hb1⟩, hB⟩ := hS'
      have c0_0 := hb0.cell 0
      have c0_1 := hb0.cell 1
      have c0_2 := hb0.cell 2
      have c0_3 := hb0.cell 3
      have c0_4 := hb0.cell 4
      have c1_0 := hb1.cell 0
      have c1_1 := hb1.cell 1
      have lt_W3_0 := hb0.lt
      have lt_W3_1 := hb1.lt
      go_simp
      obtain ⟨S_2, SD_2⟩ : ∃ S_2 : World → Prop, Go.RowKit.Hid (∀ x : World, S_2 x ↔ (Blk x w.heap.size 49 #[wv ph, wv pl, wv qh, wv ql, .int .i64 n] ∧ (∃ u0 u1, Blk x W4.heap.size 24 #[u0, u1]) ∧ (∃ u0 u1, Blk x W3.heap.size 24 #[u0, u1]) ∧ Below w.heap.size w x)) := ⟨_, Lib.hid (fun _ => Iff.rfl)⟩
      have hst : Stays S_2 := fun W W' h hb => by obtain ⟨h0, ⟨u1_0, u1_1, h1⟩, ⟨u2_0, u2_1, h2⟩, hB⟩ := (SD_2.out _).1 h; exact (SD_2.out _).2 ⟨h0.st hb, ⟨u1_0, u1_1, h1.st hb⟩, ⟨u2_0, u2_1, h2.st hb⟩, hB.trans (hb.mono (Nat.le_trans SDL hB.size))⟩
      have hle : ∀ x, S_2 x → S_1 x := fun x h => by obtain ⟨h0, ⟨u1_0, u1_1, h1⟩, ⟨u2_0, u2_1, h2⟩, hB⟩ := (SD_2.out _).1 h; exact (SD_1.out _).2 ⟨h0, ⟨u1_0, u1_1, h1⟩, hB⟩
      refine ⟨S_2, hst, hle, (SD_2.out _).2 ⟨hb0.alloc _, ⟨u1_0, u1_1, hb1.alloc _⟩, ⟨_, _, Blk.new W3 _ _⟩, hB.alloc (Nat.le_trans SDL hB.size) _⟩, ?_⟩
      try simp only [Act.put, List.setIfInBounds_toArray, List.set_cons_zero, List.set_cons_succ]
      refine Way.move 18 (by rfl) (by kernel_rfl) (by rfl) (fun wS hS => ?_)
      have hS' := (SD_2.out _).1 hS
      obtain ⟨hb0, ⟨u1_0, u1_1, hb1⟩, ⟨u2_0, u2_1, hb2⟩, hB⟩ := hS'
      have c0_0 := hb0.cell 0
      have c0_1 := hb0.cell 1
      have c0_2 := hb0.cell 2
      have c0_3 := hb0.cell 3
      have c0_4 := hb0.cell 4
      have c1_0 := hb1.cell 0
      have c1_1 := hb1.cell 1
      have c2_0 := hb2.cell 0
      have c2_1 := hb2.cell 1
      have f2_0 := hb2.frozen 0
      have f2_1 := hb2.frozen 1
      go_simp
      obtain ⟨S_3, SD_3⟩ : ∃ S_3 : World → Prop, Go.RowKit.Hid (∀ x : World, S_3 x ↔ (Blk x w.heap.size 49 #[wv ph, wv pl, wv qh, wv ql, .int .i64 n] ∧ (∃ u0 u1, Blk x W4.heap.size 24 #[u0, u1]) ∧ Blk x W3.heap.size 24 #[wv ph, wv pl] ∧ Below w.heap.size w x)) := ⟨_, Lib.hid (fun _ => Iff.rfl)⟩
      have hst : Stays S_3 := fun W W' h hb => by obtain ⟨h0, ⟨u1_0, u1_1, h1⟩, h2, hB⟩ := (SD_3.out _).1 h; exact (SD_3.out _).2 ⟨h0.st hb, ⟨u1_0, u1_1, h1.st hb⟩, h2.st hb, hB.trans (hb.mono (Nat.le_trans SDL hB.size))⟩
      have hle : ∀ x, S_3 x → S_2 x := fun x h => by obtain ⟨h0, ⟨u1_0, u1_1, h1⟩, h2, hB⟩ := (SD_3.out _).1 h; exact (SD_2.out _).2 ⟨h0, ⟨u1_0, u1_1, h1⟩, ⟨_, _, h2⟩, hB⟩
      refine ⟨S_3, hst, hle, (SD_3.out _).2 ⟨((hb0.far (by first | (simp; done) | (simp; omega)) _).far (by first | (simp; done) | (simp; omega)) _), ⟨u1_0, u1_1, ((hb1.far (by first | (simp; done) | (simp; omega)) _).far (by first | (simp; done) | (simp; omega)) _)⟩, ((hb2.set1 0 _).set1 1 _), ((hB.setCell (by first | (simp; done) | (simp; omega)) _).setCell (by first | (simp; done) | (simp; omega)) _)⟩, ?_⟩
      try simp only [Act.put, List.setIfInBounds_toArray, List.set_cons_zero, List.set_cons_succ]
      refine Way.move 19 (by rfl) (by kernel_rfl) (by rfl) (fun wS hS => ?_)
      have hS' := (SD_3.out _).1 hS
      obtain ⟨hb0, ⟨u1_0, u1_1, hb1⟩, hb2, hB⟩ := hS'
      have c0_0 := hb0.cell 0
      have c0_1 := hb0.cell 1
      have c0_2 := hb0.cell 2
      have c0_3 := hb0.cell 3
      have c0_4 := hb0.cell 4
      have c1_0 := hb1.cell 0
      have c1_1 := hb1.cell 1
      have c2_0 := hb2.cell 0
      have c2_1 := hb2.cell 1
      have f1_0 := hb1.frozen 0
      have f1_1 := hb1.frozen 1
      go_simp
      obtain ⟨S_4, SD_4⟩ : ∃ S_4 : World → Prop, Go.RowKit.Hid (∀ x : World, S_4 x ↔ (Blk x w.heap.size 49 #[wv ph, wv pl, wv qh, wv ql, .int .i64 n] ∧ Blk x W4.heap.size 24 #[wv qh, wv ql] ∧ Blk x W3.heap.size 24 #[wv ph, wv pl] ∧ Below w.heap.size w x)) := ⟨_, Lib.hid (fun _ => Iff.rfl)⟩
      have hst : Stays S_4 := fun W W' h hb => by obtain ⟨h0, h1, h2, hB⟩ := (SD_4.out _).1 h; exact (SD_4.out _).2 ⟨h0.st hb, h1.st hb, h2.st hb, hB.trans (hb.mono (Nat.le_trans SDL hB.size))⟩
      have hle : ∀ x, S_4 x → S_3 x := fun x h => by obtain ⟨h0, h1, h2, hB⟩ := (SD_4.out _).1 h; exact (SD_3.out _).2 ⟨h0, ⟨_, _, h1⟩, h2, hB⟩
      refine ⟨S_4, hst, hle, (SD_4.out _).2 ⟨((hb0.far (by first | (simp; done) | (simp; omega)) _).far (by first | (simp; done) | (simp; omega)) _), ((hb1.set1 0 _).set1 1 _), ((hb2.far (by first | (simp; done) | (simp; omega)) _).far (by first | (simp; done) | (simp; omega)) _), ((hB.setCell (by first | (simp; done) | (simp; omega)) _).setCell (by first | (simp; done) | (simp; omega)) _)⟩, ?_⟩
      try simp only [Act.put, List.setIfInBounds_toArray, List.set_cons_zero, List.set_cons_succ]
      first
        | (refine Way.no 20 (by rfl) (by kernel_rfl) (by rfl) ?_; simp only [Act.put, List.setIfInBounds_toArray, List.set_cons_zero, List.set_cons_succ])
        | (refine' Way.yes 20 (by rfl) (by kernel_rfl) (by rfl) (fun wS hS => ?_) ?_
           rotate_left
           · have hS' := (SD_4.out _).1 hS
             obtain ⟨hb0, hb1, hb2, hB⟩ := hS'
             have c0_0 := hb0.cell 0
             have c0_1 := hb0.cell 1
             have c0_2 := hb0.cell 2
             have c0_3 := hb0.cell 3
             have c0_4 := hb0.cell 4
             have c1_0 := hb1.cell 0
             have c1_1 := hb1.cell 1
             have c2_0 := hb2.cell 0
             have c2_1 := hb2.cell 1
             go_simp
             first
               | exact ⟨rfl, Below.refl _ _⟩
           simp only [Act.put, List.setIfInBounds_toArray, List.set_cons_zero, List.set_cons_succ])
      first
        | (refine Way.no 21 (by rfl) (by kernel_rfl) (by rfl) ?_; simp only [Act.put, List.setIfInBounds_toArray, List.set_cons_zero, List.set_cons_succ])
        | (refine' Way.yes 21 (by rfl) (by kernel_rfl) (by rfl) (fun wS hS => ?_) ?_
           rotate_left
           · have hS' := (SD_4.out _).1 hS
             obtain ⟨hb0, hb1, hb2, hB⟩ := hS'
             have c0_0 := hb0.cell 0
             have c0_1 := hb0.cell 1
             have c0_2 := hb0.cell 2
             have c0_3 := hb0.cell 3
             have c0_4 := hb0.cell 4
             have c1_0 := hb1.cell 0
             have c1_1 := hb1.cell 1
             have c2_0 := hb2.cell 0
             have c2_1 := hb2.cell 1
             go_simp
             first
               | exact ⟨rfl, Below.refl _ _⟩
           simp only [Act.put, List.setIfInBounds_toArray, List.set_cons_zero, List.set_cons_succ])
      first
        | (refine Way.no 22 (by rfl) (by kernel_rfl) (by rfl) ?_; simp only [Act.put, List.setIfInBounds_toArray, List.set_cons_zero, List.set_cons_succ])
        | (refine' Way.yes 22 (by rfl) (by kernel_rfl) (by rfl) (fun wS hS => ?_) ?_
           rotate_left
           · have hS' := (SD_4.out _).1 hS
             obtain ⟨hb0, hb1, hb2, hB⟩ := hS'
             have c0_0 := hb0.cell 0
             have c0_1 := hb0.cell 1
             have c0_2 := hb0.cell 2
             have c0_3 := hb0.cell 3
             have c0_4 := hb0.cell 4
             have c1_0 := hb1.cell 0
             have c1_1 := hb1.cell 1
             have c2_0 := hb2.cell 0
             have c2_1 := hb2.cell 1
             go_simp
             first
               | exact ⟨rfl, Below.refl _ _⟩
           simp only [Act.put, List.setIfInBounds_toArray, List.set_cons_zero, List.set_cons_succ])
      refine Way.done (by kernel_rfl) (fun wE hS => ?_)
      have hS' := (SD_4.out _).1 hS
      obtain ⟨hb0, hb1, hb2, hB⟩ := hS'
      have c0_0 := hb0.cell 0
      have c0_1 := hb0.cell 1
      have c0_2 := hb0.cell 2
      have c0_3 := hb0.cell 3
      have c0_4 := hb0.cell 4
      have c1_0 := hb1.cell 0
      have c1_1 := hb1.cell 1
      have c2_0 := hb2.cell 0
      have c2_1 := hb2.cell 1
      clear hS
      go_wp2_with fail
      go_meet
      exact ⟨_, _, rfl, rfl, rfl, rfl, rfl, hb2, hb1, hB⟩
  case rest =>
    obtain ⟨g3, g4, rfl, rfl, rfl, rfl, rfl, h3, h4, hB⟩ := hcut
    have B0 := Lib.hid h3
    have B1 := Lib.hid h4
    have BB := Lib.hid hB
    clear h3 h4 hB
    have c0_0 := B0.out.cell 0
    have c0_1 := B0.out.cell 1
    have c1_0 := B1.out.cell 0
    have c1_1 := B1.out.cell 1
    go_wp2_with fail
    refine (K1.out _).mono ?_
    rintro e v1 ⟨rfl, hb⟩
    clear c0_0 c0_1 c1_0 c1_1
    have B0 := Lib.hid ((B0.out.st hb).alloc (.cells #[wv sh, wv sl] 24))
    have B1 := Lib.hid ((B1.out.st hb).alloc (.cells #[wv sh, wv sl] 24))
    have hbk := keepb BB.out hb
    have BB := Lib.hid (hbk.alloc hbk.size (.cells #[wv sh, wv sl] 24))
    have B2 := Lib.hid (Blk.new v1 24 #[wv sh, wv sl])
    clear hb hbk
    have c0_0 := B0.out.cell 0
    have c0_1 := B0.out.cell 1
    have c1_0 := B1.out.cell 0
    have c1_1 := B1.out.cell 1
    have c2_0 := B2.out.cell 0
    have c2_1 := B2.out.cell 1
    go_wp2_with fail
    refine (K2.out _).mono ?_
    rintro e v2 ⟨rfl, hb⟩
    clear c0_0 c0_1 c1_0 c1_1 c2_0 c2_1
    have B0 := Lib.hid ((B0.out.st hb).alloc (.cells #[wv ph, wv pl] 24))
    have B1 := Lib.hid ((B1.out.st hb).alloc (.cells #[wv ph, wv pl] 24))
    have B2 := Lib.hid ((B2.out.st hb).alloc (.cells #[wv ph, wv pl] 24))
    have hbk := keepb BB.out hb
    have BB := Lib.hid (hbk.alloc hbk.size (.cells #[wv ph, wv pl] 24))
    have B3 := Lib.hid (Blk.new v2 24 #[wv ph, wv pl])
    clear hb hbk
    have c0_0 := B0.out.cell 0
    have c0_1 := B0.out.cell 1
    have c1_0 := B1.out.cell 0
    have c1_1 := B1.out.cell 1
    have c2_0 := B2.out.cell 0
    have c2_1 := B2.out.cell 1
    have c3_0 := B3.out.cell 0
    have c3_1 := B3.out.cell 1
    go_wp2_with fail
    refine (K3.out _).mono ?_
    rintro e v3 ⟨rfl, hb⟩
    clear c0_0 c0_1 c1_0 c1_1 c2_0 c2_1 c3_0 c3_1
    have B0 := Lib.hid (B0.out.st hb)
    have B1 := Lib.hid (B1.out.st hb)
    have B2 := Lib.hid (B2.out.st hb)
    have B3 := Lib.hid (B3.out.st hb)
    have hbk := keepb BB.out hb
    have BB := Lib.hid hbk
    clear hb hbk
    have c0_0 := B0.out.cell 0
    have c0_1 := B0.out.cell 1
    have c1_0 := B1.out.cell 0
    have c1_1 := B1.out.cell 1
    have c2_0 := B2.out.cell 0
    have c2_1 := B2.out.cell 1
    have c3_0 := B3.out.cell 0
    have c3_1 := B3.out.cell 1
    go_wp2_with fail
    refine (K4.out _).mono ?_
    rintro e v4 ⟨rfl, hb⟩
    clear c0_0 c0_1 c1_0 c1_1 c2_0 c2_1 c3_0 c3_1
    have B0 := Lib.hid ((B0.out.st hb).alloc (.cells #[wv th, wv tl] 24))
    have B1 := Lib.hid ((B1.out.st hb).alloc (.cells #[wv th, wv tl] 24))
    have B2 := Lib.hid ((B2.out.st hb).alloc (.cells #[wv th, wv tl] 24))
    have B3 := Lib.hid ((B3.out.st hb).alloc (.cells #[wv th, wv tl] 24))
    have hbk := keepb BB.out hb
    have BB := Lib.hid (hbk.alloc hbk.size (.cells #[wv th, wv tl] 24))
    have B4 := Lib.hid (Blk.new v4 24 #[wv th, wv tl])
    clear hb hbk
    have c0_0 := B0.out.cell 0
    have c0_1 := B0.out.cell 1
    have c1_0 := B1.out.cell 0
    have c1_1 := B1.out.cell 1
    have c2_0 := B2.out.cell 0
    have c2_1 := B2.out.cell 1
    have c3_0 := B3.out.cell 0
    have c3_1 := B3.out.cell 1
    have c4_0 := B4.out.cell 0
    have c4_1 := B4.out.cell 1
    go_wp2_with fail
    clear c0_0 c0_1 c1_0 c1_1 c2_0 c2_1 c3_0 c3_1 c4_0 c4_1
    obtain ⟨S, SE⟩ : ∃ S : World → Prop, Go.RowKit.Hid (∀ w' : World, S w' ↔ (Blk w' g3 24 #[wv ph, wv pl] ∧ Blk w' g4 24 #[wv qh, wv ql] ∧ Blk w' v1.heap.size 24 #[wv sh, wv sl] ∧ Blk w' v2.heap.size 24 #[wv ph, wv pl] ∧ Blk w' v4.heap.size 24 #[wv th, wv tl] ∧ Below w.heap.size w w')) := ⟨_, Lib.hid (fun _ => Iff.rfl)⟩
    refine wp_region_sure (S := S) (by kernel_rfl) (by kernel_rfl) ((SE.out _).2 (⟨B0.out, B1.out, B2.out, B3.out, B4.out, BB.out.drew⟩)) ?_
    repeat
      (first
        | (refine SureL.no (by rfl) ?_; simp only [Act.put, List.setIfInBounds_toArray, List.set_cons_zero, List.set_cons_succ])
        | (refine' SureL.yes (by rfl) (fun wS hS => ?_) ?_
           rotate_left
           · have hS' := (SE.out _).1 hS
             obtain ⟨h0, h1, h2, h3, h4, hB⟩ := hS'
             have e0_0 := h0.cell 0
             have e0_1 := h0.cell 1
             have e1_0 := h1.cell 0
             have e1_1 := h1.cell 1
             have e2_0 := h2.cell 0
             have e2_1 := h2.cell 1
             have e3_0 := h3.cell 0
             have e3_1 := h3.cell 1
             have e4_0 := h4.cell 0
             have e4_1 := h4.cell 1
             go_simp
             first
               | exact ⟨rfl, hS⟩
               | ((with_reducible refine (K5.out _).mono ?_); rintro e w' ⟨rfl, hb⟩; exact ⟨rfl, (SE.out _).2 ⟨h0.st hb, h1.st hb, h2.st hb, h3.st hb, h4.st hb, keepb hB hb⟩⟩)
               | ((with_reducible refine (K6.out _).mono ?_); rintro e w' ⟨rfl, hb⟩; exact ⟨rfl, (SE.out _).2 ⟨h0.st hb, h1.st hb, h2.st hb, h3.st hb, h4.st hb, keepb hB hb⟩⟩)
               | ((with_reducible refine (K7.out _).mono ?_); rintro e w' ⟨rfl, hb⟩; exact ⟨rfl, (SE.out _).2 ⟨h0.st hb, h1.st hb, h2.st hb, h3.st hb, h4.st hb, keepb hB hb⟩⟩)
               | ((with_reducible refine (K8.out _).mono ?_); rintro e w' ⟨rfl, hb⟩; exact ⟨rfl, (SE.out _).2 ⟨h0.st hb, h1.st hb, h2.st hb, h3.st hb, h4.st hb, keepb hB hb⟩⟩)
               | ((with_reducible refine (K9.out _).mono ?_); rintro e w' ⟨rfl, hb⟩; exact ⟨rfl, (SE.out _).2 ⟨h0.st hb, h1.st hb, h2.st hb, h3.st hb, h4.st hb, keepb hB hb⟩⟩)
               | ((with_reducible refine (K10.out _).mono ?_); rintro e w' ⟨rfl, hb⟩; exact ⟨rfl, (SE.out _).2 ⟨h0.st hb, h1.st hb, h2.st hb, h3.st hb, h4.st hb, keepb hB hb⟩⟩)
               | ((with_reducible refine (K11.out _).mono ?_); rintro e w' ⟨rfl, hb⟩; exact ⟨rfl, (SE.out _).2 ⟨h0.st hb, h1.st hb, h2.st hb, h3.st hb, h4.st hb, keepb hB hb⟩⟩)
               | ((with_reducible refine (K12.out _).mono ?_); rintro e w' ⟨rfl, hb⟩; exact ⟨rfl, (SE.out _).2 ⟨h0.st hb, h1.st hb, h2.st hb, h3.st hb, h4.st hb, keepb hB hb⟩⟩)
           simp only [Act.put, List.setIfInBounds_toArray, List.set_cons_zero, List.set_cons_succ]))
    refine SureL.nil ?_
    intro v5 hE
    obtain ⟨h0, h1, h2, h3, h4, hB⟩ := (SE.out _).1 hE
    have B0 := Lib.hid h0
    have B1 := Lib.hid h1
    have B2 := Lib.hid h2
    have B3 := Lib.hid h3
    have B4 := Lib.hid h4
    have BB := Lib.hid hB
    clear hE hB h0 h1 h2 h3 h4 S SE
    have c0_0 := B0.out.cell 0
    have c0_1 := B0.out.cell 1
    have c1_0 := B1.out.cell 0
    have c1_1 := B1.out.cell 1
    have c2_0 := B2.out.cell 0
    have c2_1 := B2.out.cell 1
    have c3_0 := B3.out.cell 0
    have c3_1 := B3.out.cell 1
    have c4_0 := B4.out.cell 0
    have c4_1 := B4.out.cell 1
    go_wp2_with fail
    refine (K13.out _).mono ?_
    rintro e v6 ⟨rfl, hb⟩
    clear c0_0 c0_1 c1_0 c1_1 c2_0 c2_1 c3_0 c3_1 c4_0 c4_1
    have B0 := Lib.hid (B0.out.st hb)
    have B1 := Lib.hid (B1.out.st hb)
    have B2 := Lib.hid (B2.out.st hb)
    have B3 := Lib.hid (B3.out.st hb)
    have B4 := Lib.hid (B4.out.st hb)
    have hbk := keepb BB.out hb
    have BB := Lib.hid hbk
    clear hb hbk
    have c0_0 := B0.out.cell 0
    have c0_1 := B0.out.cell 1
    have c1_0 := B1.out.cell 0
    have c1_1 := B1.out.cell 1
    have c2_0 := B2.out.cell 0
    have c2_1 := B2.out.cell 1
    have c3_0 := B3.out.cell 0
    have c3_1 := B3.out.cell 1
    have c4_0 := B4.out.cell 0
    have c4_1 := B4.out.cell 1
    go_wp2_with fail
    refine (K14.out _).mono ?_
    rintro e v7 ⟨rfl, hb⟩
    clear c0_0 c0_1 c1_0 c1_1 c2_0 c2_1 c3_0 c3_1 c4_0 c4_1
    have B0 := Lib.hid (B0.out.st hb)
    have B1 := Lib.hid (B1.out.st hb)
    have B2 := Lib.hid (B2.out.st hb)
    have B3 := Lib.hid (B3.out.st hb)
    have B4 := Lib.hid (B4.out.st hb)
    have hbk := keepb BB.out hb
    have BB := Lib.hid hbk
    clear hb hbk
    have c0_0 := B0.out.cell 0
    have c0_1 := B0.out.cell 1
    have c1_0 := B1.out.cell 0
    have c1_1 := B1.out.cell 1
    have c2_0 := B2.out.cell 0
    have c2_1 := B2.out.cell 1
    have c3_0 := B3.out.cell 0
    have c3_1 := B3.out.cell 1
    have c4_0 := B4.out.cell 0
    have c4_1 := B4.out.cell 1
    go_wp2_with fail
    refine (K15.out _).mono ?_
    rintro e v8 ⟨rfl, hb⟩
    clear c0_0 c0_1 c1_0 c1_1 c2_0 c2_1 c3_0 c3_1 c4_0 c4_1
    have B0 := Lib.hid (B0.out.st hb)
    have B1 := Lib.hid (B1.out.st hb)
    have B2 := Lib.hid (B2.out.st hb)
    have B3 := Lib.hid (B3.out.st hb)
    have B4 := Lib.hid (B4.out.st hb)
    have hbk := keepb BB.out hb
    have BB := Lib.hid hbk
    clear hb hbk
    have c0_0 := B0.out.cell 0
    have c0_1 := B0.out.cell 1
    have c1_0 := B1.out.cell 0
    have c1_1 := B1.out.cell 1
    have c2_0 := B2.out.cell 0
    have c2_1 := B2.out.cell 1
    have c3_0 := B3.out.cell 0
    have c3_1 := B3.out.cell 1
    have c4_0 := B4.out.cell 0
    have c4_1 := B4.out.cell 1
    go_wp2_with fail
    refine (K16.out _).mono ?_
    rintro e v9 ⟨rfl, hb⟩
    clear c0_0 c0_1 c1_0 c1_1 c2_0 c2_1 c3_0 c3_1 c4_0 c4_1
    have B0 := Lib.hid ((B0.out.st hb).alloc (.cells #[wv uh, wv ul] 24))
    have B1 := Lib.hid ((B1.out.st hb).alloc (.cells #[wv uh, wv ul] 24))
    have B2 := Lib.hid ((B2.out.st hb).alloc (.cells #[wv uh, wv ul] 24))
    have B3 := Lib.hid ((B3.out.st hb).alloc (.cells #[wv uh, wv ul] 24))
    have B4 := Lib.hid ((B4.out.st hb).alloc (.cells #[wv uh, wv ul] 24))
    have hbk := keepb BB.out hb
    have BB := Lib.hid (hbk.alloc hbk.size (.cells #[wv uh, wv ul] 24))
    have B5 := Lib.hid (Blk.new v9 24 #[wv uh, wv ul])
    clear hb hbk
    have c0_0 := B0.out.cell 0
    have c0_1 := B0.out.cell 1
    have c1_0 := B1.out.cell 0
    have c1_1 := B1.out.cell 1
    have c2_0 := B2.out.cell 0
    have c2_1 := B2.out.cell 1
    have c3_0 := B3.out.cell 0
    have c3_1 := B3.out.cell 1
    have c4_0 := B4.out.cell 0
    have c4_1 := B4.out.cell 1
    have c5_0 := B5.out.cell 0
    have c5_1 := B5.out.cell 1
    go_wp2_with fail
    refine (K17.out _).mono ?_
    rintro e v10 ⟨rfl, hb⟩
    clear c0_0 c0_1 c1_0 c1_1 c2_0 c2_1 c3_0 c3_1 c4_0 c4_1 c5_0 c5_1
    have B0 := Lib.hid ((B0.out.st hb).alloc (.cells #[wv lh, wv ll] 24))
    have B1 := Lib.hid ((B1.out.st hb).alloc (.cells #[wv lh, wv ll] 24))
    have B2 := Lib.hid ((B2.out.st hb).alloc (.cells #[wv lh, wv ll] 24))
    have B3 := Lib.hid ((B3.out.st hb).alloc (.cells #[wv lh, wv ll] 24))
    have B4 := Lib.hid ((B4.out.st hb).alloc (.cells #[wv lh, wv ll] 24))
    have B5 := Lib.hid ((B5.out.st hb).alloc (.cells #[wv lh, wv ll] 24))
    have hbk := keepb BB.out hb
    have BB := Lib.hid (hbk.alloc hbk.size (.cells #[wv lh, wv ll] 24))
    have B6 := Lib.hid (Blk.new v10 24 #[wv lh, wv ll])
    clear hb hbk
    have c0_0 := B0.out.cell 0
    have c0_1 := B0.out.cell 1
    have c1_0 := B1.out.cell 0
    have c1_1 := B1.out.cell 1
    have c2_0 := B2.out.cell 0
    have c2_1 := B2.out.cell 1
    have c3_0 := B3.out.cell 0
    have c3_1 := B3.out.cell 1
    have c4_0 := B4.out.cell 0
    have c4_1 := B4.out.cell 1
    have c5_0 := B5.out.cell 0
    have c5_1 := B5.out.cell 1
    have c6_0 := B6.out.cell 0
    have c6_1 := B6.out.cell 1
    go_wp2_with fail
    refine (K18.out _).mono ?_
    rintro e v11 ⟨rfl, hb⟩
    clear c0_0 c0_1 c1_0 c1_1 c2_0 c2_1 c3_0 c3_1 c4_0 c4_1 c5_0 c5_1 c6_0 c6_1
    have B0 := Lib.hid ((B0.out.st hb).alloc (.cells #[wv mh, wv ml] 24))
    have B1 := Lib.hid ((B1.out.st hb).alloc (.cells #[wv mh, wv ml] 24))
    have B2 := Lib.hid ((B2.out.st hb).alloc (.cells #[wv mh, wv ml] 24))
    have B3 := Lib.hid ((B3.out.st hb).alloc (.cells #[wv mh, wv ml] 24))
    have B4 := Lib.hid ((B4.out.st hb).alloc (.cells #[wv mh, wv ml] 24))
    have B5 := Lib.hid ((B5.out.st hb).alloc (.cells #[wv mh, wv ml] 24))
    have B6 := Lib.hid ((B6.out.st hb).alloc (.cells #[wv mh, wv ml] 24))
    have hbk := keepb BB.out hb
    have BB := Lib.hid (hbk.alloc hbk.size (.cells #[wv mh, wv ml] 24))
    have B7 := Lib.hid (Blk.new v11 24 #[wv mh, wv ml])
    clear hb hbk
    have c0_0 := B0.out.cell 0
    have c0_1 := B0.out.cell 1
    have c1_0 := B1.out.cell 0
    have c1_1 := B1.out.cell 1
    have c2_0 := B2.out.cell 0
    have c2_1 := B2.out.cell 1
    have c3_0 := B3.out.cell 0
    have c3_1 := B3.out.cell 1
    have c4_0 := B4.out.cell 0
    have c4_1 := B4.out.cell 1
    have c5_0 := B5.out.cell 0
    have c5_1 := B5.out.cell 1
    have c6_0 := B6.out.cell 0
    have c6_1 := B6.out.cell 1
    have c7_0 := B7.out.cell 0
    have c7_1 := B7.out.cell 1
    go_wp2_with fail
    clear c0_0 c0_1 c1_0 c1_1 c2_0 c2_1 c3_0 c3_1 c4_0 c4_1 c5_0 c5_1 c6_0 c6_1 c7_0 c7_1
    obtain ⟨S, SF⟩ : ∃ S : World → Prop, Go.RowKit.Hid (∀ w' : World, S w' ↔ (Blk w' g3 24 #[wv ph, wv pl] ∧ Blk w' g4 24 #[wv qh, wv ql] ∧ Blk w' v1.heap.size 24 #[wv sh, wv sl] ∧ Blk w' v2.heap.size 24 #[wv ph, wv pl] ∧ Blk w' v4.heap.size 24 #[wv th, wv tl] ∧ Blk w' v9.heap.size 24 #[wv uh, wv ul] ∧ Blk w' v10.heap.size 24 #[wv lh, wv ll] ∧ Blk w' v11.heap.size 24 #[wv mh, wv ml] ∧ Below w.heap.size w w')) := ⟨_, Lib.hid (fun _ => Iff.rfl)⟩
    refine wp_region_sure (S := S) (by kernel_rfl) (by kernel_rfl) ((SF.out _).2 (⟨B0.out, B1.out, B2.out, B3.out, B4.out, B5.out, B6.out, B7.out, BB.out.drew⟩)) ?_
    repeat
      (first
        | (refine SureL.no (by rfl) ?_; simp only [Act.put, List.setIfInBounds_toArray, List.set_cons_zero, List.set_cons_succ])
        | (refine' SureL.yes (by rfl) (fun wS hS => ?_) ?_
           rotate_left
           · have hS' := (SF.out _).1 hS
             obtain ⟨h0, h1, h2, h3, h4, h5, h6, h7, hB⟩ := hS'
             have e0_0 := h0.cell 0
             have e0_1 := h0.cell 1
             have e1_0 := h1.cell 0
             have e1_1 := h1.cell 1
             have e2_0 := h2.cell 0
             have e2_1 := h2.cell 1
             have e3_0 := h3.cell 0
             have e3_1 := h3.cell 1
             have e4_0 := h4.cell 0
             have e4_1 := h4.cell 1
             have e5_0 := h5.cell 0
             have e5_1 := h5.cell 1
             have e6_0 := h6.cell 0
             have e6_1 := h6.cell 1
             have e7_0 := h7.cell 0
             have e7_1 := h7.cell 1
             go_simp
             first
               | exact ⟨rfl, hS⟩
               | ((with_reducible refine (K13.out _).mono ?_); rintro e w' ⟨rfl, hb⟩; exact ⟨rfl, (SF.out _).2 ⟨h0.st hb, h1.st hb, h2.st hb, h3.st hb, h4.st hb, h5.st hb, h6.st hb, h7.st hb, keepb hB hb⟩⟩)
               | (go_at_call 16; refine (wakes_yes _).mono ?_; rintro e w' ⟨rfl, hb⟩; exact ⟨rfl, (SF.out _).2 ⟨h0.st hb, h1.st hb, h2.st hb, h3.st hb, h4.st hb, h5.st hb, h6.st hb, h7.st hb, keepb hB hb⟩⟩)
           simp only [Act.put, List.setIfInBounds_toArray, List.set_cons_zero, List.set_cons_succ]))
    refine SureL.nil ?_
    intro v12 hE
    obtain ⟨h0, h1, h2, h3, h4, h5, h6, h7, hB⟩ := (SF.out _).1 hE
    have B0 := Lib.hid h0
    have B1 := Lib.hid h1
    have B2 := Lib.hid h2
    have B3 := Lib.hid h3
    have B4 := Lib.hid h4
    have B5 := Lib.hid h5
    have B6 := Lib.hid h6
    have B7 := Lib.hid h7
    have BB := Lib.hid hB
    clear hE hB h0 h1 h2 h3 h4 h5 h6 h7 S SF
    have c0_0 := B0.out.cell 0
    have c0_1 := B0.out.cell 1
    have c1_0 := B1.out.cell 0
    have c1_1 := B1.out.cell 1
    have c2_0 := B2.out.cell 0
    have c2_1 := B2.out.cell 1
    have c3_0 := B3.out.cell 0
    have c3_1 := B3.out.cell 1
    have c4_0 := B4.out.cell 0
    have c4_1 := B4.out.cell 1
    have c5_0 := B5.out.cell 0
    have c5_1 := B5.out.cell 1
    have c6_0 := B6.out.cell 0
    have c6_1 := B6.out.cell 1
    have c7_0 := B7.out.cell 0
    have c7_1 := B7.out.cell 1
    go_wp2_with fail
    go_ret
    exact ⟨rfl, BB.out⟩

theorem walk (a0_0 a0_1 a0_2 a0_3 a0_4 : Int) (w : World) (w0_0 : (Lit.int .u64 a0_0).wf = true) (w0_1 : (Lit.int .u64 a0_1).wf = true) (w0_2 : (Lit.int .u64 a0_2).wf = true) (w0_3 : (Lit.int .u64 a0_3).wf = true) (w0_4 : (Lit.int .i64 a0_4).wf = true) :
    Calls Tryd.prog 5 #[.agg #[.int .u64 a0_0, .int .u64 a0_1, .int .u64 a0_2, .int .u64 a0_3, .int .i64 a0_4]] w fun e w' => e = .returned (.bool true) ∧ Below w.heap.size w w' := by
  have b0 := bounds_u64 w0_0
  have b1 := bounds_u64 w0_1
  have b2 := bounds_u64 w0_2
  have b3 := bounds_u64 w0_3
  obtain ⟨n0, rfl⟩ := Int.eq_ofNat_of_zero_le b0.1
  obtain ⟨n1, rfl⟩ := Int.eq_ofNat_of_zero_le b1.1
  obtain ⟨n2, rfl⟩ := Int.eq_ofNat_of_zero_le b2.1
  obtain ⟨n3, rfl⟩ := Int.eq_ofNat_of_zero_le b3.1
  have h0 : n0 < W64 := by unfold W64; omega
  have h1 : n1 < W64 := by unfold W64; omega
  have h2 : n2 < W64 := by unfold W64; omega
  have h3 : n3 < W64 := by unfold W64; omega
  have hP := p_lt h0 h1
  have hQ := p_lt h2 h3
  have p1 := pHi_mk (h := n0) h1
  have p2 := pLo_mk (h := n0) h1
  have p3 := pHi_mk (h := n2) h3
  have p4 := pLo_mk (h := n2) h3
  generalize hPe : W64 * n0 + n1 = P at *
  generalize hQe : W64 * n2 + n3 = Q at *
  rw [← p1, ← p2, ← p3, ← p4]
  clear hPe hQe b0 b1 b2 b3
  have hp0 : 0 < P128 := by unfold P128 W64; omega
  have hS : (P + Q) % P128 < P128 := Nat.mod_lt _ hp0
  have hT : (P + P) % P128 < P128 := Nat.mod_lt _ hp0
  have hA : P * 2 ^ cutN a0_4 % P128 < P128 := Nat.mod_lt _ hp0
  have hC : P / 2 ^ cutN a0_4 < P128 := Nat.lt_of_le_of_lt (Nat.div_le_self _ _) hP
  have q2 := pLo_lt P
  have q4 := pLo_lt Q
  have hz : pLo Q / 4294967296 < W64 := by unfold W64 at *; omega
  have hy : pLo Q % 4294967296 < W64 := by unfold W64 at *; omega
  have hX : pLo P * (pLo Q / 4294967296) < P128 := by unfold P128; exact Nat.mul_lt_mul_of_lt_of_lt q2 hz
  have hL : pLo P * (pLo Q % 4294967296) < P128 := by unfold P128; exact Nat.mul_lt_mul_of_lt_of_lt q2 hy
  have hM : pLo P * pLo Q < P128 := by unfold P128; exact Nat.mul_lt_mul_of_lt_of_lt q2 q4
  have hsplit : pLo P * (pLo Q / 4294967296) * 4294967296 + pLo P * (pLo Q % 4294967296) = pLo P * pLo Q := by
    rw [Nat.mul_assoc, ← Nat.mul_add, Nat.mul_comm (pLo Q / 4294967296), Nat.div_add_mod]
  have hUe : pLo P * (pLo Q / 4294967296) * 2 ^ cutN 32 % P128 = pLo P * (pLo Q / 4294967296) * 4294967296 := by
    rw [show cutN 32 = 32 from rfl, show (2 : Nat) ^ 32 = 4294967296 from rfl]
    exact Nat.mod_eq_of_lt (by omega)
  have hU : pLo P * (pLo Q / 4294967296) * 2 ^ cutN 32 % P128 < P128 := Nat.mod_lt _ hp0
  have k2 : ∀ W, Calls Tryd.prog 23 #[pv ((P + Q) % P128), pv Q] W fun e w' => e = .returned (.tuple #[pv P, .bool (decide (P128 ≤ P + Q))]) ∧ Below W.heap.size W w' := fun W => by
    have h := sub_pair ((P + Q) % P128) Q hS hQ W
    rw [show ((P + Q) % P128 + P128 - Q) % P128 = P by unfold P128 W64 at *; omega, show decide ((P + Q) % P128 < Q) = decide (P128 ≤ P + Q) by rw [Bool.eq_iff_iff, decide_eq_true_iff, decide_eq_true_iff]; unfold P128 W64 at *; omega] at h
    exact h
  have k5 : ∀ W, Calls Tryd.prog 25 #[pv P, .int .i64 1] W fun e w' => e = .returned (pv ((P + P) % P128)) ∧ Below W.heap.size W w' := fun W => by
    have h := shl_pair P 1 hP W
    rw [show cutN 1 = 1 from rfl, Nat.pow_one, Nat.mul_two] at h
    exact h
  have k7 := fun W => shl_pair (P * 2 ^ cutN a0_4 % P128) 1 hA W
  have k8 : ∀ W, Calls Tryd.prog 25 #[pv ((P + P) % P128), .int .i64 a0_4] W fun e w' => e = .returned (pv (P * 2 ^ cutN a0_4 % P128 * 2 ^ cutN 1 % P128)) ∧ Below W.heap.size W w' := fun W => by
    have h := shl_pair ((P + P) % P128) a0_4 hT W
    rw [show (P + P) % P128 * 2 ^ cutN a0_4 % P128 = P * 2 ^ cutN a0_4 % P128 * 2 ^ cutN 1 % P128 by
      rw [Nat.mul_mod, Nat.mod_mod, ← Nat.mul_mod, Nat.mul_mod (P * 2 ^ cutN a0_4 % P128), Nat.mod_mod, ← Nat.mul_mod, show cutN 1 = 1 from rfl, Nat.pow_one, ← Nat.mul_two, Nat.mul_right_comm]] at h
    exact h
  have k14 : ∀ W, Calls Tryd.prog 27 #[wv (pLo Q), wv (pLo P)] W fun e w' => e = .returned (pv (pLo P * pLo Q)) ∧ Below W.heap.size W w' := fun W => by
    have h := mul_pair (pLo Q) (pLo P) q4 q2 W
    rw [Nat.mul_comm] at h
    exact h
  have k18 : ∀ W, Calls Tryd.prog 22 #[pv (pLo P * (pLo Q / 4294967296) * 2 ^ cutN 32 % P128), pv (pLo P * (pLo Q % 4294967296))] W fun e w' => e = .returned (.tuple #[pv (pLo P * pLo Q), .bool false]) ∧ Below W.heap.size W w' := fun W => by
    have h := add_pair _ _ hU hL W
    rw [show (pLo P * (pLo Q / 4294967296) * 2 ^ cutN 32 % P128 + pLo P * (pLo Q % 4294967296)) % P128 = pLo P * pLo Q by rw [hUe, hsplit, Nat.mod_eq_of_lt hM], show decide (P128 ≤ pLo P * (pLo Q / 4294967296) * 2 ^ cutN 32 % P128 + pLo P * (pLo Q % 4294967296)) = false by rw [hUe, hsplit]; simp; omega] at h
    exact h
  have hcb : ∀ x y : Nat, -1 ≤ cmpI x y ∧ cmpI x y ≤ 1 := fun x y => by unfold cmpI; split <;> (try split) <;> omega
  refine walkK (pHi P) (pLo P) (pHi Q) (pLo Q) _ _ _ _ _ _ _ _ _ _ _ _ _ _ _ _ _ _ _ _ a0_4 (decide (P128 ≤ P + Q)) _ (cmpI ((P + Q) % P128) P) (cmpI (P / 2 ^ cutN a0_4) P) (cmpI P Q) (cmpI Q P) w
    (fun W => add_pair P Q hP hQ W) k2 (fun W => cmp_pair _ P hS hP W) (fun W => add_pair P P hP hP W) k5 (fun W => shl_pair P a0_4 hP W) k7 k8 (fun W => shr_pair P a0_4 hP W) (fun W => cmp_pair _ P hC hP W) (fun W => cmp_pair P Q hP hQ W) (fun W => cmp_pair Q P hQ hP W)
    (fun W => mul_pair _ _ q2 q4 W) k14 (fun W => mul_pair _ _ q2 hz W) (fun W => shl_pair _ 32 hX W) (fun W => mul_pair _ _ q2 hy W) k18 ?_ ?_ ?_ ?_ (four_div _) (four_mask _ (by unfold W64 at q4; exact q4)) ?_ ?_
  · unfold cmpI
    by_cases h : (P + Q) % P128 = P
    · rw [if_pos h]; simp; unfold P128 W64 at *; omega
    · rw [if_neg h]
      by_cases h' : (P + Q) % P128 < P
      · rw [if_pos h']; simp; unfold P128 W64 at *; omega
      · rw [if_neg h']; simp; unfold P128 W64 at *; omega
  · have hle : P / 2 ^ cutN a0_4 ≤ P := Nat.div_le_self _ _
    unfold cmpI
    by_cases h : P / 2 ^ cutN a0_4 = P
    · rw [if_pos h]; rfl
    · rw [if_neg h, if_pos (by omega)]; rfl
  · have := hcb P Q
    exact IntWalk.i64_in _ (by omega)
  · unfold cmpI
    by_cases h : P = Q
    · rw [if_pos h, if_pos h.symm]; rfl
    · rw [if_neg h, if_neg (Ne.symm h)]
      by_cases h' : P < Q
      · rw [if_pos h', if_neg (by omega)]
      · rw [if_neg h', if_pos (by omega)]; rfl
  · simp
  · simp
end Go.Proofs.YtnghcpgdfkchdaaDoor.wideRing
