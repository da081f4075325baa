/- The walk of WidePairs. -/
import Derived.Test.YtnghcpgdfkchdaaDoorWideN
import Derived.Test.YtnghcpgdfkchdaaDoorFourE
import Derived.Deep.DeepCutAuto
import Derived.IntWalk
namespace Go.Proofs.YtnghcpgdfkchdaaDoor.widePairs
open Go.RowKit
attribute [local go_sem] SGives_value SGives_skip SGives_enter CGives_value CGives_skip CGives_enter MGives_value MGives_skip MGives_enter
set_option linter.unusedSimpArgs false
set_option linter.unusedVariables false

set_option maxRecDepth 100000 in
set_option maxHeartbeats 4000000 in
theorem walkK (ph pl qh ql sh sl dh dl ah al ch cl f0 f1 f2 f3 g0 g1 g2 g3 S0 S1 S2 S3 D0 D1 D2 D3 A0 A1 A2 A3 C0 C1 C2 C3 : Nat) (n m len : Int) (o u : Bool) (w : World)
    (K1 : Go.RowKit.Hid (∀ W, Calls Tryd.prog 22 #[.agg #[wv ph, wv pl], .agg #[wv qh, wv ql]] W fun e w' => e = .returned (.tuple #[.agg #[wv sh, wv sl], .bool o]) ∧ Below W.heap.size W w'))
    (K2 : Go.RowKit.Hid (∀ W, Calls Tryd.prog 29 #[.agg #[wv ph, wv pl]] W fun e w' => e = .returned (.agg #[wv f0, wv f1, wv f2, wv f3]) ∧ Below W.heap.size W w'))
    (K3 : Go.RowKit.Hid (∀ W, Calls Tryd.prog 29 #[.agg #[wv qh, wv ql]] W fun e w' => e = .returned (.agg #[wv g0, wv g1, wv g2, wv g3]) ∧ Below W.heap.size W w'))
    (K4 : Go.RowKit.Hid (∀ W, Calls Tryd.prog 28 #[.agg #[wv f0, wv f1, wv f2, wv f3], .agg #[wv g0, wv g1, wv g2, wv g3]] W fun e w' => e = .returned (.tuple #[.agg #[wv S0, wv S1, wv S2, wv S3], .bool o]) ∧ Below W.heap.size W w'))
    (K5 : Go.RowKit.Hid (∀ W, Calls Tryd.prog 23 #[.agg #[wv ph, wv pl], .agg #[wv qh, wv ql]] W fun e w' => e = .returned (.tuple #[.agg #[wv dh, wv dl], .bool u]) ∧ Below W.heap.size W w'))
    (K6 : Go.RowKit.Hid (∀ W, Calls Tryd.prog 30 #[.agg #[wv f0, wv f1, wv f2, wv f3], .agg #[wv g0, wv g1, wv g2, wv g3]] W fun e w' => e = .returned (.tuple #[.agg #[wv D0, wv D1, wv D2, wv D3], .bool u]) ∧ Below W.heap.size W w'))
    (K7 : Go.RowKit.Hid (∀ W, Calls Tryd.prog 17 #[.agg #[wv S0, wv S1, wv S2, wv S3]] W fun e w' => e = .returned (.agg #[wv sh, wv sl]) ∧ Below W.heap.size W w'))
    (K8 : Go.RowKit.Hid (∀ W, Calls Tryd.prog 17 #[.agg #[wv D0, wv D1, wv D2, wv D3]] W fun e w' => e = .returned (.agg #[wv dh, wv dl]) ∧ Below W.heap.size W w'))
    (K9 : Go.RowKit.Hid (∀ W, Calls Tryd.prog 25 #[.agg #[wv ph, wv pl], .int .i64 n] W fun e w' => e = .returned (.agg #[wv ah, wv al]) ∧ Below W.heap.size W w'))
    (K10 : Go.RowKit.Hid (∀ W, Calls Tryd.prog 31 #[.agg #[wv f0, wv f1, wv f2, wv f3], .int .i64 n] W fun e w' => e = .returned (.agg #[wv A0, wv A1, wv A2, wv A3]) ∧ Below W.heap.size W w'))
    (K11 : Go.RowKit.Hid (∀ W, Calls Tryd.prog 17 #[.agg #[wv A0, wv A1, wv A2, wv A3]] W fun e w' => e = .returned (.agg #[wv ah, wv al]) ∧ Below W.heap.size W w'))
    (K12 : Go.RowKit.Hid (∀ W, Calls Tryd.prog 26 #[.agg #[wv ph, wv pl], .int .i64 n] W fun e w' => e = .returned (.agg #[wv ch, wv cl]) ∧ Below W.heap.size W w'))
    (K13 : Go.RowKit.Hid (∀ W, Calls Tryd.prog 32 #[.agg #[wv f0, wv f1, wv f2, wv f3], .int .i64 n] W fun e w' => e = .returned (.agg #[wv C0, wv C1, wv C2, wv C3]) ∧ Below W.heap.size W w'))
    (K14 : Go.RowKit.Hid (∀ W, Calls Tryd.prog 17 #[.agg #[wv C0, wv C1, wv C2, wv C3]] W fun e w' => e = .returned (.agg #[wv ch, wv cl]) ∧ Below W.heap.size W w'))
    (K15 : Go.RowKit.Hid (∀ W, Calls Tryd.prog 24 #[.agg #[wv ph, wv pl], .agg #[wv qh, wv ql]] W fun e w' => e = .returned (.int .i64 m) ∧ Below W.heap.size W w'))
    (K16 : Go.RowKit.Hid (∀ W, Calls Tryd.prog 33 #[.agg #[wv f0, wv f1, wv f2, wv f3], .agg #[wv g0, wv g1, wv g2, wv g3]] W fun e w' => e = .returned (.int .i64 m) ∧ Below W.heap.size W w'))
    (K17 : Go.RowKit.Hid (∀ W, Calls Tryd.prog 34 #[.agg #[wv ph, wv pl]] W fun e w' => e = .returned (.int .i64 len) ∧ Below W.heap.size W w'))
    (K18 : Go.RowKit.Hid (∀ W, Calls Tryd.prog 35 #[.agg #[wv f0, wv f1, wv f2, wv f3]] W fun e w' => e = .returned (.int .i64 len) ∧ Below W.heap.size W w')) :
    Calls Tryd.prog 6 #[.agg #[wv ph, wv pl, wv qh, wv ql, .int .i64 n]] w fun e w' => e = .returned (.bool true) ∧ Below w.heap.size w w' := by
  go_enter Tryd.func6, Tryd.ntmps6
  go_upto_region 1 with fail
  go_cut [3, 4, 5] from 14 to 25 (fun s3 s4 s5 wx => ∃ g3 g4 : Nat, s3 = .pointer (some ⟨g3, 0, none⟩) ∧ s4 = .pointer (some ⟨g4, 0, none⟩) ∧ s5 = .int .i64 n ∧ Blk wx g3 24 #[wv ph, wv pl] ∧ Blk wx g4 24 #[wv qh, wv ql] ∧ Below w.heap.size w wx)
  case first =>
    have SDL : w.heap.size ≤ w.heap.size := by first | exact Nat.le_refl _ | omega | (simp; done)
    obtain ⟨S, SD⟩ : ∃ S : World → Prop, Go.RowKit.Hid (∀ w' : World, S w' ↔ (Blk w' w.heap.size 49 #[wv ph, wv pl, wv qh, wv ql, .int .i64 n] ∧ Below w.heap.size w w')) := ⟨_, Lib.hid (fun _ => Iff.rfl)⟩
    refine wp_region_way (S := S) (by kernel_rfl) (by kernel_rfl) (fun W W' h hb => by obtain ⟨h0, hB⟩ := (SD.out _).1 h; exact (SD.out _).2 ⟨h0.st hb, hB.trans (hb.mono (Nat.le_trans SDL hB.size))⟩) ((SD.out _).2 (⟨Blk.new w _ _, ((Below.refl _ w).alloc (Nat.le_refl _) _).drew⟩)) ?_
    first
      | (refine Way.no 0 (by rfl) (by kernel_rfl) (by rfl) ?_; simp only [Act.put, List.setIfInBounds_toArray, List.set_cons_zero, List.set_cons_succ])
      | (refine' Way.yes 0 (by rfl) (by kernel_rfl) (by rfl) (fun wS hS => ?_) ?_
         rotate_left
         · have hS' := (SD.out _).1 hS
           obtain ⟨hb0, hB⟩ := hS'
           have c0_0 := hb0.cell 0
           have c0_1 := hb0.cell 1
           have c0_2 := hb0.cell 2
           have c0_3 := hb0.cell 3
           have c0_4 := hb0.cell 4
           go_simp
           first
             | exact ⟨rfl, Below.refl _ _⟩
         simp only [Act.put, List.setIfInBounds_toArray, List.set_cons_zero, List.set_cons_succ])
    first
      | (refine Way.no 1 (by rfl) (by kernel_rfl) (by rfl) ?_; simp only [Act.put, List.setIfInBounds_toArray, List.set_cons_zero, List.set_cons_succ])
      | (refine' Way.yes 1 (by rfl) (by kernel_rfl) (by rfl) (fun wS hS => ?_) ?_
         rotate_left
         · have hS' := (SD.out _).1 hS
           obtain ⟨hb0, hB⟩ := hS'
           have c0_0 := hb0.cell 0
           have c0_1 := hb0.cell 1
           have c0_2 := hb0.cell 2
           have c0_3 := hb0.cell 3
           have c0_4 := hb0.cell 4
           go_simp
           first
             | exact ⟨rfl, Below.refl _ _⟩
         simp only [Act.put, List.setIfInBounds_toArray, List.set_cons_zero, List.set_cons_succ])
    first
      | (refine Way.no 2 (by rfl) (by kernel_rfl) (by rfl) ?_; simp only [Act.put, List.setIfInBounds_toArray, List.set_cons_zero, List.set_cons_succ])
      | (refine' Way.yes 2 (by rfl) (by kernel_rfl) (by rfl) (fun wS hS => ?_) ?_
         rotate_left
         · have hS' := (SD.out _).1 hS
           obtain ⟨hb0, hB⟩ := hS'
           have c0_0 := hb0.cell 0
           have c0_1 := hb0.cell 1
           have c0_2 := hb0.cell 2
           have c0_3 := hb0.cell 3
           have c0_4 := hb0.cell 4
           go_simp
           first
             | exact ⟨rfl, Below.refl _ _⟩
         simp only [Act.put, List.setIfInBounds_toArray, List.set_cons_zero, List.set_cons_succ])
    first
      | (refine Way.no 3 (by rfl) (by kernel_rfl) (by rfl) ?_; simp only [Act.put, List.setIfInBounds_toArray, List.set_cons_zero, List.set_cons_succ])
      | (refine' Way.yes 3 (by rfl) (by kernel_rfl) (by rfl) (fun wS hS => ?_) ?_
         rotate_left
         · have hS' := (SD.out _).1 hS
           obtain ⟨hb0, hB⟩ := hS'
           have c0_0 := hb0.cell 0
           have c0_1 := hb0.cell 1
           have c0_2 := hb0.cell 2
           have c0_3 := hb0.cell 3
           have c0_4 := hb0.cell 4
           go_simp
           first
             | exact ⟨rfl, Below.refl _ _⟩
         simp only [Act.put, List.setIfInBounds_toArray, List.set_cons_zero, List.set_cons_succ])
    first
      | (refine Way.no 4 (by rfl) (by kernel_rfl) (by rfl) ?_; simp only [Act.put, List.setIfInBounds_toArray, List.set_cons_zero, List.set_cons_succ])
      | (refine' Way.yes 4 (by rfl) (by kernel_rfl) (by rfl) (fun wS hS => ?_) ?_
         rotate_left
         · have hS' := (SD.out _).1 hS
           obtain ⟨hb0, hB⟩ := hS'
           have c0_0 := hb0.cell 0
           have c0_1 := hb0.cell 1
           have c0_2 := hb0.cell 2
           have c0_3 := hb0.cell 3
           have c0_4 := hb0.cell 4
           go_simp
           first
             | exact ⟨rfl, Below.refl _ _⟩
         simp only [Act.put, List.setIfInBounds_toArray, List.set_cons_zero, List.set_cons_succ])
    first
      | (refine Way.no 5 (by rfl) (by kernel_rfl) (by rfl) ?_; simp only [Act.put, List.setIfInBounds_toArray, List.set_cons_zero, List.set_cons_succ])
      | (refine' Way.yes 5 (by rfl) (by kernel_rfl) (by rfl) (fun wS hS => ?_) ?_
         rotate_left
         · have hS' := (SD.out _).1 hS
           obtain ⟨hb0, hB⟩ := hS'
           have c0_0 := hb0.cell 0
           have c0_1 := hb0.cell 1
           have c0_2 := hb0.cell 2
           have c0_3 := hb0.cell 3
           have c0_4 := hb0.cell 4
           go_simp
           first
             | exact ⟨rfl, Below.refl _ _⟩
         simp only [Act.put, List.setIfInBounds_toArray, List.set_cons_zero, List.set_cons_succ])
    first
      | (refine Way.no 6 (by rfl) (by kernel_rfl) (by rfl) ?_; simp only [Act.put, List.setIfInBounds_toArray, List.set_cons_zero, List.set_cons_succ])
      | (refine' Way.yes 6 (by rfl) (by kernel_rfl) (by rfl) (fun wS hS => ?_) ?_
         rotate_left
         · have hS' := (SD.out _).1 hS
           obtain ⟨hb0, hB⟩ := hS'
           have c0_0 := hb0.cell 0
           have c0_1 := hb0.cell 1
           have c0_2 := hb0.cell 2
           have c0_3 := hb0.cell 3
           have c0_4 := hb0.cell 4
           go_simp
           first
             | exact ⟨rfl, Below.refl _ _⟩
         simp only [Act.put, List.setIfInBounds_toArray, List.set_cons_zero, List.set_cons_succ])
    first
      | (refine Way.no 7 (by rfl) (by kernel_rfl) (by rfl) ?_; simp only [Act.put, List.setIfInBounds_toArray, List.set_cons_zero, List.set_cons_succ])
      | (refine' Way.yes 7 (by rfl) (by kernel_rfl) (by rfl) (fun wS hS => ?_) ?_
         rotate_left
         · have hS' := (SD.out _).1 hS
           obtain ⟨hb0, hB⟩ := hS'
           have c0_0 := hb0.cell 0
           have c0_1 := hb0.cell 1
           have c0_2 := hb0.cell 2
           have c0_3 := hb0.cell 3
           have c0_4 := hb0.cell 4
           go_simp
           first
             | exact ⟨rfl, Below.refl _ _⟩
         simp only [Act.put, List.setIfInBounds_toArray, List.set_cons_zero, List.set_cons_succ])
    first
      | (refine Way.no 8 (by rfl) (by kernel_rfl) (by rfl) ?_; simp only [Act.put, List.setIfInBounds_toArray, List.set_cons_zero, List.set_cons_succ])
      | (refine' Way.yes 8 (by rfl) (by kernel_rfl) (by rfl) (fun wS hS => ?_) ?_
         rotate_left
         · have hS' := (SD.out _).1 hS
           obtain ⟨hb0, hB⟩ := hS'
           have c0_0 := hb0.cell 0
           have c0_1 := hb0.cell 1
           have c0_2 := hb0.cell 2
           have c0_3 := hb0.cell 3
           have c0_4 := hb0.cell 4
           go_simp
           first
             | exact ⟨rfl, Below.refl _ _⟩
         simp only [Act.put, List.setIfInBounds_toArray, List.set_cons_zero, List.set_cons_succ])
    first
      | (refine Way.no 9 (by rfl) (by kernel_rfl) (by rfl) ?_; simp only [Act.put, List.setIfInBounds_toArray, List.set_cons_zero, List.set_cons_succ])
      | (refine' Way.yes 9 (by rfl) (by kernel_rfl) (by rfl) (fun wS hS => ?_) ?_
         rotate_left
         · have hS' := (SD.out _).1 hS
           obtain ⟨hb0, hB⟩ := hS'
           have c0_0 := hb0.cell 0
           have c0_1 := hb0.cell 1
           have c0_2 := hb0.cell 2
           have c0_3 := hb0.cell 3
           have c0_4 := hb0.cell 4
           go_simp
           first
             | exact ⟨rfl, Below.refl _ _⟩
         simp only [Act.put, List.setIfInBounds_toArray, List.set_cons_zero, List.set_cons_succ])
    first
      | (refine Way.no 10 (by rfl) (by kernel_rfl) (by rfl) ?_; simp only [Act.put, List.setIfInBounds_toArray, List.set_cons_zero, List.set_cons_succ])
      | (refine' Way.yes 10 (by rfl) (by kernel_rfl) (by rfl) (fun wS hS => ?_) ?_
         rotate_left
         · have hS' := (SD.out _).1 hS
           obtain ⟨hb0, hB⟩ := hS'
           have c0_0 := hb0.cell 0
           have c0_1 := hb0.cell 1
           have c0_2 := hb0.cell 2
           have c0_3 := hb0.cell 3
           have c0_4 := hb0.cell 4
           go_simp
           first
             | exact ⟨rfl, Below.refl _ _⟩
         simp only [Act.put, List.setIfInBounds_toArray, List.set_cons_zero, List.set_cons_succ])
    first
      | (refine Way.no 11 (by rfl) (by kernel_rfl) (by rfl) ?_; simp only [Act.put, List.setIfInBounds_toArray, List.set_cons_zero, List.set_cons_succ])
      | (refine' Way.yes 11 (by rfl) (by kernel_rfl) (by rfl) (fun wS hS => ?_) ?_
         rotate_left
         · have hS' := (SD.out _).1 hS
           obtain ⟨hb0, hB⟩ := hS'
           have c0_0 := hb0.cell 0
           have c0_1 := hb0.cell 1
           have c0_2 := hb0.cell 2
           have c0_3 := hb0.cell 3
           have c0_4 := hb0.cell 4
           go_simp
           first
             | exact ⟨rfl, Below.refl _ _⟩
         simp only [Act.put, List.setIfInBounds_toArray, List.set_cons_zero, List.set_cons_succ])
    refine Way.move2 12 13 (by rfl) (by rfl) (by kernel_rfl) (by rfl) (by rfl) (fun W3 hS => ?_) (fun W4 hS => ?_)
    · have hS' := (SD.out _).1 hS
      obtain ⟨hb0, hB⟩ := hS'
      have c0_0 := hb0.cell 0
      have c0_1 := hb0.cell 1
      have c0_2 := hb0.cell 2
      have c0_3 := hb0.cell 3
      have c0_4 := hb0.cell 4
      have lt_W3_0 := hb0.lt
      have leB_W3 := Nat.le_trans SDL hB.size
      go_simp
      obtain ⟨S_1, SD_1⟩ : ∃ S_1 : World → Prop, Go.RowKit.Hid (∀ x : World, S_1 x ↔ (Blk x w.heap.size 49 #[wv ph, wv pl, wv qh, wv ql, .int .i64 n] ∧ (∃ u0 u1, Blk x W3.heap.size 24 #[u0, u1]) ∧ Below w.heap.size w x)) := ⟨_, Lib.hid (fun _ => Iff.rfl)⟩
      have hst : Stays S_1 := fun W W' h hb => by obtain ⟨h0, ⟨u1_0, u1_1, h1⟩, hB⟩ := (SD_1.out _).1 h; exact (SD_1.out _).2 ⟨h0.st hb, ⟨u1_0, u1_1, h1.st hb⟩, hB.trans (hb.mono (Nat.le_trans SDL hB.size))⟩
      have hle : ∀ x, S_1 x → S x := fun x h => by obtain ⟨h0, ⟨u1_0, u1_1, h1⟩, hB⟩ := (SD_1.out _).1 h; exact (SD.out _).2 ⟨h0, hB⟩
      refine ⟨S_1, hst, hle, (SD_1.out _).2 ⟨hb0.alloc _, ⟨_, _, Blk.new W3 _ _⟩, hB.alloc (Nat.le_trans SDL hB.size) _⟩, ?_⟩
      try simp only [Act.put, List.setIfInBounds_toArray, List.set_cons_zero, List.set_cons_succ]
      refine Way.move 13 (by rfl) (by kernel_rfl) (by rfl) (fun W4 hS => ?_)
      have hS' := (SD_1.out _).1 hS
      obtain ⟨hb0, ⟨u1_0, u1_1, hb1⟩, hB⟩ := hS'
      have c0_0 := hb0.cell 0
      have c0_1 := hb0.cell 1
      have c0_2 := hb0.cell 2
      have c0_3 := hb0.cell 3
      have c0_4 := hb0.cell 4
      have c1_0 := hb1.cell 0
      have c1_1 := hb1.cell 1
      have lt_W4_0 := hb0.lt
      have lt_W4_1 := hb1.lt
      have leB_W4 := Nat.le_trans SDL hB.size
      go_simp
      obtain ⟨S_2, SD_2⟩ : ∃ S_2 : World → Prop, Go.RowKit.Hid (∀ x : World, S_2 x ↔ (Blk x w.heap.size 49 #[wv ph, wv pl, wv qh, wv ql, .int .i64 n] ∧ (∃ u0 u1, Blk x W3.heap.size 24 #[u0, u1]) ∧ (∃ u0 u1, Blk x W4.heap.size 24 #[u0, u1]) ∧ Below w.heap.size w x)) := ⟨_, Lib.hid (fun _ => Iff.rfl)⟩
      have hst : Stays S_2 := fun W W' h hb => by obtain ⟨h0, ⟨u1_0, u1_1, h1⟩, ⟨u2_0, u2_1, h2⟩, hB⟩ := (SD_2.out _).1 h; exact (SD_2.out _).2 ⟨h0.st hb, ⟨u1_0, u1_1, h1.st hb⟩, ⟨u2_0, u2_1, h2.st hb⟩, hB.trans (hb.mono (Nat.le_trans SDL hB.size))⟩
      have hle : ∀ x, S_2 x → S_1 x := fun x h => by obtain ⟨h0, ⟨u1_0, u1_1, h1⟩, ⟨u2_0, u2_1, h2⟩, hB⟩ := (SD_2.out _).1 h; exact (SD_1.out _).2 ⟨h0, ⟨u1_0, u1_1, h1⟩, hB⟩
      refine ⟨S_2, hst, hle, (SD_2.out _).2 ⟨hb0.alloc _, ⟨u1_0, u1_1, hb1.alloc _⟩, ⟨_, _, Blk.new W4 _ _⟩, hB.alloc (Nat.le_trans SDL hB.size) _⟩, ?_⟩
      try simp only [Act.put, List.setIfInBounds_toArray, List.set_cons_zero, List.set_cons_succ]
      refine Way.move 14 (by rfl) (by kernel_rfl) (by rfl) (fun wS hS => ?_)
      have hS' := (SD_2.out _).1 hS
      obtain ⟨hb0, ⟨u1_0, u1_1, hb1⟩, ⟨u2_0, u2_1, hb2⟩, hB⟩ := hS'
      have c0_0 := hb0.cell 0
      have c0_1 := hb0.cell 1
      have c0_2 := hb0.cell 2
      have c0_3 := hb0.cell 3
      have c0_4 := hb0.cell 4
      have c1_0 := hb1.cell 0
      have c1_1 := hb1.cell 1
      have c2_0 := hb2.cell 0
      have c2_1 := hb2.cell 1
      have f1_0 := hb1.frozen 0
      have f1_1 := hb1.frozen 1
      go_simp
      obtain ⟨S_3, SD_3⟩ : ∃ S_3 : World → Prop, Go.RowKit.Hid (∀ x : World, S_3 x ↔ (Blk x w.heap.size 49 #[wv ph, wv pl, wv qh, wv ql, .int .i64 n] ∧ Blk x W3.heap.size 24 #[wv ph, wv pl] ∧ (∃ u0 u1, Blk x W4.heap.size 24 #[u0, u1]) ∧ Below w.heap.size w x)) := ⟨_, Lib.hid (fun _ => Iff.rfl)⟩
      have hst : Stays S_3 := fun W W' h hb => by obtain ⟨h0, h1, ⟨u2_0, u2_1, h2⟩, hB⟩ := (SD_3.out _).1 h; exact (SD_3.out _).2 ⟨h0.st hb, h1.st hb, ⟨u2_0, u2_1, h2.st hb⟩, hB.trans (hb.mono (Nat.le_trans SDL hB.size))⟩
      have hle : ∀ x, S_3 x → S_2 x := fun x h => by obtain ⟨h0, h1, ⟨u2_0, u2_1, h2⟩, hB⟩ := (SD_3.out _).1 h; exact (SD_2.out _).2 ⟨h0, ⟨_, _, h1⟩, ⟨u2_0, u2_1, h2⟩, hB⟩
      refine ⟨S_3, hst, hle, (SD_3.out _).2 ⟨((hb0.far (by first | (simp; done) | (simp; omega)) _).far (by first | (simp; done) | (simp; omega)) _), ((hb1.set1 0 _).set1 1 _), ⟨u2_0, u2_1, ((hb2.far (by first | (simp; done) | (simp; omega)) _).far (by first | (simp; done) | (simp; omega)) _)⟩, ((hB.setCell (by first | (simp; done) | (simp; omega)) _).setCell (by first | (simp; done) | (simp; omega)) _)⟩, ?_⟩
      try simp only [Act.put, List.setIfInBounds_toArray, List.set_cons_zero, List.set_cons_succ]
      refine Way.move 15 (by rfl) (by kernel_rfl) (by rfl) (fun wS hS => ?_)
      have hS' := (SD_3.out _).1 hS
      obtain ⟨hb0, hb1, ⟨u2_0, u2_1, hb2⟩, hB⟩ := hS'
      have c0_0 := hb0.cell 0
      have c0_1 := hb0.cell 1
      have c0_2 := hb0.cell 2
      have c0_3 := hb0.cell 3
      have c0_4 := hb0.cell 4
      have c1_0 := hb1.cell 0
      have c1_1 := hb1.cell 1
      have c2_0 := hb2.cell 0
      have c2_1 := hb2.cell 1
      have f2_0 := hb2.frozen 0
      have f2_1 := hb2.frozen 1
      go_simp
      obtain ⟨S_4, SD_4⟩ : ∃ S_4 : World → Prop, Go.RowKit.Hid (∀ x : World, S_4 x ↔ (Blk x w.heap.size 49 #[wv ph, wv pl, wv qh, wv ql, .int .i64 n] ∧ Blk x W3.heap.size 24 #[wv ph, wv pl] ∧ Blk x W4.heap.size 24 #[wv qh, wv ql] ∧ Below w.heap.size w x)) := ⟨_, Lib.hid (fun _ => Iff.rfl)⟩
      have hst : Stays S_4 := fun W W' h hb => by obtain ⟨h0, h1, h2, hB⟩ := (SD_4.out _).1 h; exact (SD_4.out _).2 ⟨h0.st hb, h1.st hb, h2.st hb, hB.trans (hb.mono (Nat.le_trans SDL hB.size))⟩
      have hle : ∀ x, S_4 x → S_3 x := fun x h => by obtain ⟨h0, h1, h2, hB⟩ := (SD_4.out _).1 h; exact (SD_3.out _).2 ⟨h0, h1, ⟨_, _, h2⟩, hB⟩
      refine ⟨S_4, hst, hle, (SD_4.out _).2 ⟨((hb0.far (by first | (simp; done) | (simp; omega)) _).far (by first | (simp; done) | (simp; omega)) _), ((hb1.far (by first | (simp; done) | (simp; omega)) _).far (by first | (simp; done) | (simp; omega)) _), ((hb2.set1 0 _).set1 1 _), ((hB.setCell (by first | (simp; done) | (simp; omega)) _).setCell (by first | (simp; done) | (simp; omega)) _)⟩, ?_⟩
      try simp only [Act.put, List.setIfInBounds_toArray, List.set_cons_zero, List.set_cons_succ]
      first
        | (refine Way.no 16 (by rfl) (by kernel_rfl) (by rfl) ?_; simp only [Act.put, List.setIfInBounds_toArray, List.set_cons_zero, List.set_cons_succ])
        | (refine' Way.yes 16 (by rfl) (by kernel_rfl) (by rfl) (fun wS hS => ?_) ?_
           rotate_left
           · have hS' := (SD_4.out _).1 hS
             obtain ⟨hb0, hb1, hb2, hB⟩ := hS'
             have c0_0 := hb0.cell 0
             have c0_1 := hb0.cell 1
             have c0_2 := hb0.cell 2
             have c0_3 := hb0.cell 3
             have c0_4 := hb0.cell 4
             have c1_0 := hb1.cell 0
             have c1_1 := hb1.cell 1
             have c2_0 := hb2.cell 0
             have c2_1 := hb2.cell 1
             go_simp
             first
               | exact ⟨rfl, Below.refl _ _⟩
           simp only [Act.put, List.setIfInBounds_toArray, List.set_cons_zero, List.set_cons_succ])
      refine Way.done (by kernel_rfl) (fun wE hS => ?_)
      have hS' := (SD_4.out _).1 hS
      obtain ⟨hb0, hb1, hb2, hB⟩ := hS'
      have c0_0 := hb0.cell 0
      have c0_1 := hb0.cell 1
      have c0_2 := hb0.cell 2
      have c0_3 := hb0.cell 3
      have c0_4 := hb0.cell 4
      have c1_0 := hb1.cell 0
      have c1_1 := hb1.cell 1
      have c2_0 := hb2.cell 0
      have c2_1 := hb2.cell 1
      clear hS
      go_wp2_with fail
      go_meet
      exact ⟨_, _, rfl, rfl, rfl, hb1, hb2, hB⟩
    · have hS' := (SD.out _).1 hS
      obtain ⟨hb0, hB⟩ := hS'
      have c0_0 := hb0.cell 0
      have c0_1 := hb0.cell 1
      have c0_2 := hb0.cell 2
      have c0_3 := hb0.cell 3
      have c0_4 := hb0.cell 4
      have lt_W4_0 := hb0.lt
      have leB_W4 := Nat.le_trans SDL hB.size
      go_simp
      obtain ⟨S_1, SD_1⟩ : ∃ S_1 : World → Prop, Go.RowKit.Hid (∀ x : World, S_1 x ↔ (Blk x w.heap.size 49 #[wv ph, wv pl, wv qh, wv ql, .int .i64 n] ∧ (∃ u0 u1, Blk x W4.heap.size 24 #[u0, u1]) ∧ Below w.heap.size w x)) := ⟨_, Lib.hid (fun _ => Iff.rfl)⟩
      have hst : Stays S_1 := fun W W' h hb => by obtain ⟨h0, ⟨u1_0, u1_1, h1⟩, hB⟩ := (SD_1.out _).1 h; exact (SD_1.out _).2 ⟨h0.st hb, ⟨u1_0, u1_1, h1.st hb⟩, hB.trans (hb.mono (Nat.le_trans SDL hB.size))⟩
      have hle : ∀ x, S_1 x → S x := fun x h => by obtain ⟨h0, ⟨u1_0, u1_1, h1⟩, hB⟩ := (SD_1.out _).1 h; exact (SD.out _).2 ⟨h0, hB⟩
      refine ⟨S_1, hst, hle, (SD_1.out _).2 ⟨hb0.alloc _, ⟨_, _, Blk.new W4 _ _⟩, hB.alloc (Nat.le_trans SDL hB.size) _⟩, ?_⟩
      try simp only [Act.put, List.setIfInBounds_toArray, List.set_cons_zero, List.set_cons_succ]
      refine Way.move 12 (by rfl) (by kernel_rfl) (by rfl) (fun W3 hS => ?_)
      have hS' := (SD_1.out _).1 hS
      obtain ⟨hb0, ⟨u1_0, u1_1, hb1⟩, hB⟩ := hS'
      have c0_0 := hb0.cell 0
      have c0_1 := hb0.cell 1
      have c0_2 := hb0.cell 2
      have c0_3 := hb0.cell 3
      have c0_4 := hb0.cell 4
      have c1_0 := hb1.cell 0
      have c1_1 := hb1.cell 1
      have lt_W3_0 := hb0.lt
      have lt_W3_1 := hb1.lt
      have leB_W3 := Nat.le_trans SDL hB.size
      go_simp
      obtain ⟨S_2, SD_2⟩ : ∃ S_2 : World → Prop, Go.RowKit.Hid (∀ x : World, S_2 x ↔ (Blk x w.heap.size 49 #[wv ph, wv pl, wv qh, wv ql, .int .i64 n] ∧ (∃ u0 u1, Blk x W4.heap.size 24 #[u0, u1]) ∧ (∃ u0 u1, Blk x W3.heap.size 24 #[u0, u1]) ∧ Below w.heap.size w x)) := ⟨_, Lib.hid (fun _ => Iff.rfl)⟩
      have hst : Stays S_2 := fun W W' h hb => by obtain ⟨h0, ⟨u1_0, u1_1, h1⟩, ⟨u2_0, u2_1, h2⟩, hB⟩ := (SD_2.out _).1 h; exact (SD_2.out _).2 ⟨h0.st hb, ⟨u1_0, u1_1, h1.st hb⟩, ⟨u2_0, u2_1, h2.st hb⟩, hB.trans (hb.mono (Nat.le_trans SDL hB.size))⟩
      have hle : ∀ x, S_2 x → S_1 x := fun x h => by obtain ⟨h0, ⟨u1_0, u1_1, h1⟩, ⟨u2_0, u2_1, h2⟩, hB⟩ := (SD_2.out _).1 h; exact (SD_1.out _).2 ⟨h0, ⟨u1_0, u1_1, h1⟩, hB⟩
      refine ⟨S_2, hst, hle, (SD_2.out _).2 ⟨hb0.alloc _, ⟨u1_0, u1_1, hb1.alloc _⟩, ⟨_, _, Blk.new W3 _ _⟩, hB.alloc (Nat.le_trans SDL hB.size) _⟩, ?_⟩
      try simp only [Act.put, List.setIfInBounds_toArray, List.set_cons_zero, List.set_cons_succ]
      refine Way.move 14 (by rfl) (by kernel_rfl) (by rfl) (fun wS hS => ?_)
      have hS' := (SD_2.out _).1 hS
      obtain ⟨hb0, ⟨u1_0, u1_1, hb1⟩, ⟨u2_0, u2_1, hb2⟩, hB⟩ := hS'
      have c0_0 := hb0.cell 0
      have c0_1 := hb0.cell 1
      have c0_2 := hb0.cell 2
      have c0_3 := hb0.cell 3
      have c0_4 := hb0.cell 4
      have c1_0 := hb1.cell 0
      have c1_1 := hb1.cell 1
      have c2_0 := hb2.cell 0
      have c2_1 := hb2.cell 1
      have f2_0 := hb2.frozen 0
      have f2_1 := hb2.frozen 1
      go_simp
      obtain ⟨S_3, SD_3⟩ : ∃ S_3 : World → Prop, Go.RowKit.Hid (∀ x : World, S_3 x ↔ (Blk x w.heap.size 49 #[wv ph, wv pl, wv qh, wv ql, .int .i64 n] ∧ (∃ u0 u1, Blk x W4.heap.size 24 #[u0, u1]) ∧ Blk x W3.heap.size 24 #[wv ph, wv pl] ∧ Below w.heap.size w x)) := ⟨_, Lib.hid (fun _ => Iff.rfl)⟩
      have hst : Stays S_3 := fun W W' h hb => by obtain ⟨h0, ⟨u1_0, u1_1, h1⟩, h2, hB⟩ := (SD_3.out _).1 h; exact (SD_3.out _).2 ⟨h0.st hb, ⟨u1_0, u1_1, h1.st hb⟩, h2.st hb, hB.trans (hb.mono (Nat.le_trans SDL hB.size))⟩
      have hle : ∀ x, S_3 x → S_2 x := fun x h => by obtain ⟨h0, ⟨u1_0, u1_1, h1⟩, h2, hB⟩ := (SD_3.out _).1 h; exact (SD_2.out _).2 ⟨h0, ⟨u1_0, u1_1, h1⟩, ⟨_, _, h2⟩, hB⟩
      refine ⟨S_3, hst, hle, (SD_3.out _).2 ⟨((hb0.far (by first | (simp; done) | (simp; omega)) _).far (by first | (simp; done) | (simp; omega)) _), ⟨u1_0, u1_1, ((hb1.far (by first | (simp; done) | (simp; omega)) _).far (by first | (simp; done) | (simp; omega)) _)⟩, ((hb2.set1 0 _).set1 1 _), ((hB.setCell (by first | (simp; done) | (simp; omega)) _).setCell (by first | (simp; done) | (simp; omega)) _)⟩, ?_⟩
      try simp only [Act.put, List.setIfInBounds_toArray, List.set_cons_zero, List.set_cons_succ]
      refine Way.move 15 (by rfl) (by kernel_rfl) (by rfl) (fun wS hS => ?_)
      have hS' := (SD_3.out _).1 hS
      obtain ⟨hb0, ⟨u1_0, u1_1, hb1⟩, hb2, hB⟩ := hS'
      have c0_0 := hb0.cell 0
      have c0_1 := hb0.cell 1
      have c0_2 := hb0.cell 2
      have c0_3 := hb0.cell 3
      have c0_4 := hb0.cell 4
      have c1_0 := hb1.cell 0
      have c1_1 := hb1.cell 1
      have c2_0 := hb2.cell 0
      have c2_1 := hb2.cell 1
      have f1_0 := hb1.frozen 0
      have f1_1 := hb1.frozen 1
      go_simp
      obtain ⟨S_4, SD_4⟩ : ∃ S_4 : World → Prop, Go.RowKit.Hid (∀ x : World, S_4 x ↔ (Blk x w.heap.size 49 #[wv ph, wv pl, wv qh, wv ql, .int .i64 n] ∧ Blk x W4.heap.size 24 #[wv qh, wv ql] ∧ Blk x W3.heap.size 24 #[wv ph, wv pl] ∧ Below w.heap.size w x)) := ⟨_, Lib.hid (fun _ => Iff.rfl)⟩
      have hst : Stays S_4 := fun W W' h hb => by obtain ⟨h0, h1, h2, hB⟩ := (SD_4.out _).1 h; exact (SD_4.out _).2 ⟨h0.st hb, h1.st hb, h2.st hb, hB.trans (hb.mono (Nat.le_trans SDL hB.size))⟩
      have hle : ∀ x, S_4 x → S_3 x := fun x h => by obtain ⟨h0, h1, h2, hB⟩ := (SD_4.out _).1 h; exact (SD_3.out _).2 ⟨h0, ⟨_, _, h1⟩, h2, hB⟩
      refine ⟨S_4, hst, hle, (SD_4.out _).2 ⟨((hb0.far (by first | (simp; done) | (simp; omega)) _).far (by first | (simp; done) | (simp; omega)) _), ((hb1.set1 0 _).set1 1 _), ((hb2.far (by first | (simp; done) | (simp; omega)) _).far (by first | (simp; done) | (simp; omega)) _), ((hB.setCell (by first | (simp; done) | (simp; omega)) _).setCell (by first | (simp; done) | (simp; omega)) _)⟩, ?_⟩
      try simp only [Act.put, List.setIfInBounds_toArray, List.set_cons_zero, List.set_cons_succ]
      first
        | (refine Way.no 16 (by rfl) (by kernel_rfl) (by rfl) ?_; simp only [Act.put, List.setIfInBounds_toArray, List.set_cons_zero, List.set_cons_succ])
        | (refine' Way.yes 16 (by rfl) (by kernel_rfl) (by rfl) (fun wS hS => ?_) ?_
           rotate_left
           · have hS' := (SD_4.out _).1 hS
             obtain ⟨hb0, hb1, hb2, hB⟩ := hS'
             have c0_0 := hb0.cell 0
             have c0_1 := hb0.cell 1
             have c0_2 := hb0.cell 2
             have c0_3 := hb0.cell 3
             have c0_4 := hb0.cell 4
             have c1_0 := hb1.cell 0
             have c1_1 := hb1.cell 1
             have c2_0 := hb2.cell 0
             have c2_1 := hb2.cell 1
             go_simp
             first
               | exact ⟨rfl, Below.refl _ _⟩
           simp only [Act.put, List.setIfInBounds_toArray, List.set_cons_zero, List.set_cons_succ])
      refine Way.done (by kernel_rfl) (fun wE hS => ?_)
      have hS' := (SD_4.out _).1 hS
      obtain ⟨hb0, hb1, hb2, hB⟩ := hS'
      have c0_0 := hb0.cell 0
      have c0_1 := hb0.cell 1
      have c0_2 := hb0.cell 2
      have c0_3 := hb0.cell 3
      have c0_4 := hb0.cell 4
      have c1_0 := hb1.cell 0
      have c1_1 := hb1.cell 1
      have c2_0 := hb2.cell 0
      have c2_1 := hb2.cell 1
      clear hS
      go_wp2_with fail
      go_meet
      exact ⟨_, _, rfl, rfl, rfl, hb2, hb1, hB⟩
  case rest =>
    obtain ⟨g3, g4, rfl, rfl, rfl, h3, h4, hB⟩ := hcut
    have B0 := Lib.hid h3
    have B1 := Lib.hid h4
    have BB := Lib.hid hB
    clear h3 h4 hB
    have c0_0 := B0.out.cell 0
    have c0_1 := B0.out.cell 1
    have c1_0 := B1.out.cell 0
    have c1_1 := B1.out.cell 1
    go_wp2_with fail
    refine (K1.out _).mono ?_
    rintro e v1 ⟨rfl, hb⟩
    clear c0_0 c0_1 c1_0 c1_1
    have B0 := Lib.hid ((B0.out.st hb).alloc (.cells #[wv sh, wv sl] 24))
    have B1 := Lib.hid ((B1.out.st hb).alloc (.cells #[wv sh, wv sl] 24))
    have hbk := keepb BB.out hb
    have BB := Lib.hid (hbk.alloc hbk.size (.cells #[wv sh, wv sl] 24))
    have B2 := Lib.hid (Blk.new v1 24 #[wv sh, wv sl])
    clear hb hbk
    have c0_0 := B0.out.cell 0
    have c0_1 := B0.out.cell 1
    have c1_0 := B1.out.cell 0
    have c1_1 := B1.out.cell 1
    have c2_0 := B2.out.cell 0
    have c2_1 := B2.out.cell 1
    go_wp2_with fail
    clear c0_0 c0_1 c1_0 c1_1 c2_0 c2_1
    have SAL : w.heap.size ≤ w.heap.size := by first | exact Nat.le_refl _ | omega | (simp; done)
    obtain ⟨S, SA⟩ : ∃ S : World → Prop, Go.RowKit.Hid (∀ w' : World, S w' ↔ (Blk w' g3 24 #[wv ph, wv pl] ∧ Blk w' g4 24 #[wv qh, wv ql] ∧ Blk w' v1.heap.size 24 #[wv sh, wv sl] ∧ Below w.heap.size w w')) := ⟨_, Lib.hid (fun _ => Iff.rfl)⟩
    refine wp_region_way (S := S) (by kernel_rfl) (by kernel_rfl) (fun W W' h hb => by obtain ⟨h0, h1, h2, hB⟩ := (SA.out _).1 h; exact (SA.out _).2 ⟨h0.st hb, h1.st hb, h2.st hb, hB.trans (hb.mono (Nat.le_trans SAL hB.size))⟩) ((SA.out _).2 (⟨B0.out, B1.out, B2.out, BB.out.drew⟩)) ?_
    first
      | (refine Way.no 0 (by rfl) (by kernel_rfl) (by rfl) ?_; simp only [Act.put, List.setIfInBounds_toArray, List.set_cons_zero, List.set_cons_succ])
      | (refine' Way.yes 0 (by rfl) (by kernel_rfl) (by rfl) (fun wS hS => ?_) ?_
         rotate_left
         · have hS' := (SA.out _).1 hS
           obtain ⟨hb0, hb1, hb2, hB⟩ := hS'
           have c0_0 := hb0.cell 0
           have c0_1 := hb0.cell 1
           have c1_0 := hb1.cell 0
           have c1_1 := hb1.cell 1
           have c2_0 := hb2.cell 0
           have c2_1 := hb2.cell 1
           go_simp
           first
             | exact ⟨rfl, Below.refl _ _⟩
             | (with_reducible exact K2.out _)
             | (with_reducible exact K3.out _)
             | (with_reducible exact K4.out _)
         simp only [Act.put, List.setIfInBounds_toArray, List.set_cons_zero, List.set_cons_succ])
    first
      | (refine Way.no 1 (by rfl) (by kernel_rfl) (by rfl) ?_; simp only [Act.put, List.setIfInBounds_toArray, List.set_cons_zero, List.set_cons_succ])
      | (refine' Way.yes 1 (by rfl) (by kernel_rfl) (by rfl) (fun wS hS => ?_) ?_
         rotate_left
         · have hS' := (SA.out _).1 hS
           obtain ⟨hb0, hb1, hb2, hB⟩ := hS'
           have c0_0 := hb0.cell 0
           have c0_1 := hb0.cell 1
           have c1_0 := hb1.cell 0
           have c1_1 := hb1.cell 1
           have c2_0 := hb2.cell 0
           have c2_1 := hb2.cell 1
           go_simp
           first
             | exact ⟨rfl, Below.refl _ _⟩
             | (with_reducible exact K2.out _)
             | (with_reducible exact K3.out _)
             | (with_reducible exact K4.out _)
         simp only [Act.put, List.setIfInBounds_toArray, List.set_cons_zero, List.set_cons_succ])
    first
      | (refine Way.no 2 (by rfl) (by kernel_rfl) (by rfl) ?_; simp only [Act.put, List.setIfInBounds_toArray, List.set_cons_zero, List.set_cons_succ])
      | (refine' Way.yes 2 (by rfl) (by kernel_rfl) (by rfl) (fun wS hS => ?_) ?_
         rotate_left
         · have hS' := (SA.out _).1 hS
           obtain ⟨hb0, hb1, hb2, hB⟩ := hS'
           have c0_0 := hb0.cell 0
           have c0_1 := hb0.cell 1
           have c1_0 := hb1.cell 0
           have c1_1 := hb1.cell 1
           have c2_0 := hb2.cell 0
           have c2_1 := hb2.cell 1
           go_simp
           first
             | exact ⟨rfl, Below.refl _ _⟩
             | (with_reducible exact K2.out _)
             | (with_reducible exact K3.out _)
             | (with_reducible exact K4.out _)
         simp only [Act.put, List.setIfInBounds_toArray, List.set_cons_zero, List.set_cons_succ])
    first
      | (refine Way.no 3 (by rfl) (by kernel_rfl) (by rfl) ?_; simp only [Act.put, List.setIfInBounds_toArray, List.set_cons_zero, List.set_cons_succ])
      | (refine' Way.yes 3 (by rfl) (by kernel_rfl) (by rfl) (fun wS hS => ?_) ?_
         rotate_left
         · have hS' := (SA.out _).1 hS
           obtain ⟨hb0, hb1, hb2, hB⟩ := hS'
           have c0_0 := hb0.cell 0
           have c0_1 := hb0.cell 1
           have c1_0 := hb1.cell 0
           have c1_1 := hb1.cell 1
           have c2_0 := hb2.cell 0
           have c2_1 := hb2.cell 1
           go_simp
           first
             | exact ⟨rfl, Below.refl _ _⟩
             | (with_reducible exact K2.out _)
             | (with_reducible exact K3.out _)
             | (with_reducible exact K4.out _)
         simp only [Act.put, List.setIfInBounds_toArray, List.set_cons_zero, List.set_cons_succ])
    first
      | (refine Way.no 4 (by rfl) (by kernel_rfl) (by rfl) ?_; simp only [Act.put, List.setIfInBounds_toArray, List.set_cons_zero, List.set_cons_succ])
      | (refine' Way.yes 4 (by rfl) (by kernel_rfl) (by rfl) (fun wS hS => ?_) ?_
         rotate_left
         · have hS' := (SA.out _).1 hS
           obtain ⟨hb0, hb1, hb2, hB⟩ := hS'
           have c0_0 := hb0.cell 0
           have c0_1 := hb0.cell 1
           have c1_0 := hb1.cell 0
           have c1_1 := hb1.cell 1
           have c2_0 := hb2.cell 0
           have c2_1 := hb2.cell 1
           go_simp
           first
             | exact ⟨rfl, Below.refl _ _⟩
             | (with_reducible exact K2.out _)
             | (with_reducible exact K3.out _)
             | (with_reducible exact K4.out _)
         simp only [Act.put, List.setIfInBounds_toArray, List.set_cons_zero, List.set_cons_succ])
    first
      | (refine Way.no 5 (by rfl) (by kernel_rfl) (by rfl) ?_; simp only [Act.put, List.setIfInBounds_toArray, List.set_cons_zero, List.set_cons_succ])
      | (refine' Way.yes 5 (by rfl) (by kernel_rfl) (by rfl) (fun wS hS => ?_) ?_
         rotate_left
         · have hS' := (SA.out _).1 hS
           obtain ⟨hb0, hb1, hb2, hB⟩ := hS'
           have c0_0 := hb0.cell 0
           have c0_1 := hb0.cell 1
           have c1_0 := hb1.cell 0
           have c1_1 := hb1.cell 1
           have c2_0 := hb2.cell 0
           have c2_1 := hb2.cell 1
           go_simp
           first
             | exact ⟨rfl, Below.refl _ _⟩
             | (with_reducible exact K2.out _)
             | (with_reducible exact K3.out _)
             | (with_reducible exact K4.out _)
         simp only [Act.put, List.setIfInBounds_toArray, List.set_cons_zero, List.set_cons_succ])
    first
      | (refine Way.no 6 (by rfl) (by kernel_rfl) (by rfl) ?_; simp only [Act.put, List.setIfInBounds_toArray, List.set_cons_zero, List.set_cons_succ])
      | (refine' Way.yes 6 (by rfl) (by kernel_rfl) (by rfl) (fun wS hS => ?_) ?_
         rotate_left
         · have hS' := (SA.out _).1 hS
           obtain ⟨hb0, hb1, hb2, hB⟩ := hS'
           have c0_0 := hb0.cell 0
           have c0_1 := hb0.cell 1
           have c1_0 := hb1.cell 0
           have c1_1 := hb1.cell 1
           have c2_0 := hb2.cell 0
           have c2_1 := hb2.cell 1
           go_simp
           first
             | exact ⟨rfl, Below.refl _ _⟩
             | (with_reducible exact K2.out _)
             | (with_reducible exact K3.out _)
             | (with_reducible exact K4.out _)
         simp only [Act.put, List.setIfInBounds_toArray, List.set_cons_zero, List.set_cons_succ])
    first
      | (refine Way.no 7 (by rfl) (by kernel_rfl) (by rfl) ?_; simp only [Act.put, List.setIfInBounds_toArray, List.set_cons_zero, List.set_cons_succ])
      | (refine' Way.yes 7 (by rfl) (by kernel_rfl) (by rfl) (fun wS hS => ?_) ?_
         rotate_left
         · have hS' := (SA.out _).1 hS
           obtain ⟨hb0, hb1, hb2, hB⟩ := hS'
           have c0_0 := hb0.cell 0
           have c0_1 := hb0.cell 1
           have c1_0 := hb1.cell 0
           have c1_1 := hb1.cell 1
           have c2_0 := hb2.cell 0
           have c2_1 := hb2.cell 1
           go_simp
           first
             | exact ⟨rfl, Below.refl _ _⟩
             | (with_reducible exact K2.out _)
             | (with_reducible exact K3.out _)
             | (with_reducible exact K4.out _)
         simp only [Act.put, List.setIfInBounds_toArray, List.set_cons_zero, List.set_cons_succ])
    refine Way.move 8 (by rfl) (by kernel_rfl) (by rfl) (fun W8 hS => ?_)
    have hS' := (SA.out _).1 hS
    obtain ⟨hb0, hb1, hb2, hB⟩ := hS'
    have c0_0 := hb0.cell 0
    have c0_1 := hb0.cell 1
    have c1_0 := hb1.cell 0
    have c1_1 := hb1.cell 1
    have c2_0 := hb2.cell 0
    have c2_1 := hb2.cell 1
    have lt_W8_0 := hb0.lt
    have lt_W8_1 := hb1.lt
    have lt_W8_2 := hb2.lt
    have leB_W8 := Nat.le_trans SAL hB.size
    go_simp
    obtain ⟨S_1, SA_1⟩ : ∃ S_1 : World → Prop, Go.RowKit.Hid (∀ x : World, S_1 x ↔ (Blk x g3 24 #[wv ph, wv pl] ∧ Blk x g4 24 #[wv qh, wv ql] ∧ Blk x v1.heap.size 24 #[wv sh, wv sl] ∧ (∃ u0 u1 u2 u3, Blk x W8.heap.size 30 #[u0, u1, u2, u3]) ∧ Below w.heap.size w x)) := ⟨_, Lib.hid (fun _ => Iff.rfl)⟩
    have hst : Stays S_1 := fun W W' h hb => by obtain ⟨h0, h1, h2, ⟨u3_0, u3_1, u3_2, u3_3, h3⟩, hB⟩ := (SA_1.out _).1 h; exact (SA_1.out _).2 ⟨h0.st hb, h1.st hb, h2.st hb, ⟨u3_0, u3_1, u3_2, u3_3, h3.st hb⟩, hB.trans (hb.mono (Nat.le_trans SAL hB.size))⟩
    have hle : ∀ x, S_1 x → S x := fun x h => by obtain ⟨h0, h1, h2, ⟨u3_0, u3_1, u3_2, u3_3, h3⟩, hB⟩ := (SA_1.out _).1 h; exact (SA.out _).2 ⟨h0, h1, h2, hB⟩
    refine ⟨S_1, hst, hle, (SA_1.out _).2 ⟨hb0.alloc _, hb1.alloc _, hb2.alloc _, ⟨_, _, _, _, Blk.new W8 _ _⟩, hB.alloc (Nat.le_trans SAL hB.size) _⟩, ?_⟩
    try simp only [Act.put, List.setIfInBounds_toArray, List.set_cons_zero, List.set_cons_succ]
    refine Way.move 9 (by rfl) (by kernel_rfl) (by rfl) (fun wS hS => ?_)
    have hS' := (SA_1.out _).1 hS
    obtain ⟨hb0, hb1, hb2, ⟨u3_0, u3_1, u3_2, u3_3, hb3⟩, hB⟩ := hS'
    have c0_0 := hb0.cell 0
    have c0_1 := hb0.cell 1
    have c1_0 := hb1.cell 0
    have c1_1 := hb1.cell 1
    have c2_0 := hb2.cell 0
    have c2_1 := hb2.cell 1
    have c3_0 := hb3.cell 0
    have c3_1 := hb3.cell 1
    have c3_2 := hb3.cell 2
    have c3_3 := hb3.cell 3
    have f3_0 := hb3.frozen 0
    have f3_1 := hb3.frozen 1
    have f3_2 := hb3.frozen 2
    have f3_3 := hb3.frozen 3
    go_simp
    obtain ⟨S_2, SA_2⟩ : ∃ S_2 : World → Prop, Go.RowKit.Hid (∀ x : World, S_2 x ↔ (Blk x g3 24 #[wv ph, wv pl] ∧ Blk x g4 24 #[wv qh, wv ql] ∧ Blk x v1.heap.size 24 #[wv sh, wv sl] ∧ Blk x W8.heap.size 30 #[wv S0, wv S1, wv S2, wv S3] ∧ Below w.heap.size w x)) := ⟨_, Lib.hid (fun _ => Iff.rfl)⟩
    have hst : Stays S_2 := fun W W' h hb => by obtain ⟨h0, h1, h2, h3, hB⟩ := (SA_2.out _).1 h; exact (SA_2.out _).2 ⟨h0.st hb, h1.st hb, h2.st hb, h3.st hb, hB.trans (hb.mono (Nat.le_trans SAL hB.size))⟩
    have hle : ∀ x, S_2 x → S_1 x := fun x h => by obtain ⟨h0, h1, h2, h3, hB⟩ := (SA_2.out _).1 h; exact (SA_1.out _).2 ⟨h0, h1, h2, ⟨_, _, _, _, h3⟩, hB⟩
    refine ⟨S_2, hst, hle, (SA_2.out _).2 ⟨((((hb0.far (by first | (simp; done) | (simp; omega)) _).far (by first | (simp; done) | (simp; omega)) _).far (by first | (simp; done) | (simp; omega)) _).far (by first | (simp; done) | (simp; omega)) _), ((((hb1.far (by first | (simp; done) | (simp; omega)) _).far (by first | (simp; done) | (simp; omega)) _).far (by first | (simp; done) | (simp; omega)) _).far (by first | (simp; done) | (simp; omega)) _), ((((hb2.far (by first | (simp; done) | (simp; omega)) _).far (by first | (simp; done) | (simp; omega)) _).far (by first | (simp; done) | (simp; omega)) _).far (by first | (simp; done) | (simp; omega)) _), ((((hb3.set1 0 _).set1 1 _).set1 2 _).set1 3 _), ((((hB.setCell (by first | (simp; done) | (simp; omega)) _).setCell (by first | (simp; done) | (simp; omega)) _).setCell (by first | (simp; done) | (simp; omega)) _).setCell (by first | (simp; done) | (simp; omega)) _)⟩, ?_⟩
    try simp only [Act.put, List.setIfInBounds_toArray, List.set_cons_zero, List.set_cons_succ]
    first
      | (refine Way.no 10 (by rfl) (by kernel_rfl) (by rfl) ?_; simp only [Act.put, List.setIfInBounds_toArray, List.set_cons_zero, List.set_cons_succ])
      | (refine' Way.yes 10 (by rfl) (by kernel_rfl) (by rfl) (fun wS hS => ?_) ?_
         rotate_left
         · have hS' := (SA_2.out _).1 hS
           obtain ⟨hb0, hb1, hb2, hb3, hB⟩ := hS'
           have c0_0 := hb0.cell 0
           have c0_1 := hb0.cell 1
           have c1_0 := hb1.cell 0
           have c1_1 := hb1.cell 1
           have c2_0 := hb2.cell 0
           have c2_1 := hb2.cell 1
           have c3_0 := hb3.cell 0
           have c3_1 := hb3.cell 1
           have c3_2 := hb3.cell 2
           have c3_3 := hb3.cell 3
           go_simp
           first
             | exact ⟨rfl, Below.refl _ _⟩
         simp only [Act.put, List.setIfInBounds_toArray, List.set_cons_zero, List.set_cons_succ])
    refine Way.done (by kernel_rfl) (fun v2 hS => ?_)
    have hS' := (SA_2.out _).1 hS
    obtain ⟨hb0, hb1, hb2, hb3, hB⟩ := hS'
    have c0_0 := hb0.cell 0
    have c0_1 := hb0.cell 1
    have c1_0 := hb1.cell 0
    have c1_1 := hb1.cell 1
    have c2_0 := hb2.cell 0
    have c2_1 := hb2.cell 1
    have c3_0 := hb3.cell 0
    have c3_1 := hb3.cell 1
    have c3_2 := hb3.cell 2
    have c3_3 := hb3.cell 3
    clear hS
    have B0 := Lib.hid hb0
    have B1 := Lib.hid hb1
    have B2 := Lib.hid hb2
    have B3 := Lib.hid hb3
    have BB := Lib.hid hB
    clear hB hb0 hb1 hb2 hb3
    go_wp2_with fail
    refine (K5.out _).mono ?_
    rintro e v3 ⟨rfl, hb⟩
    clear c0_0 c0_1 c1_0 c1_1 c2_0 c2_1 c3_0 c3_1 c3_2 c3_3
    have B0 := Lib.hid ((B0.out.st hb).alloc (.cells #[wv dh, wv dl] 24))
    have B1 := Lib.hid ((B1.out.st hb).alloc (.cells #[wv dh, wv dl] 24))
    have B2 := Lib.hid ((B2.out.st hb).alloc (.cells #[wv dh, wv dl] 24))
    have B3 := Lib.hid ((B3.out.st hb).alloc (.cells #[wv dh, wv dl] 24))
    have hbk := keepb BB.out hb
    have BB := Lib.hid (hbk.alloc hbk.size (.cells #[wv dh, wv dl] 24))
    have B4 := Lib.hid (Blk.new v3 24 #[wv dh, wv dl])
    clear hb hbk
    have c0_0 := B0.out.cell 0
    have c0_1 := B0.out.cell 1
    have c1_0 := B1.out.cell 0
    have c1_1 := B1.out.cell 1
    have c2_0 := B2.out.cell 0
    have c2_1 := B2.out.cell 1
    have c3_0 := B3.out.cell 0
    have c3_1 := B3.out.cell 1
    have c3_2 := B3.out.cell 2
    have c3_3 := B3.out.cell 3
    have c4_0 := B4.out.cell 0
    have c4_1 := B4.out.cell 1
    go_wp2_with fail
    clear c0_0 c0_1 c1_0 c1_1 c2_0 c2_1 c3_0 c3_1 c3_2 c3_3 c4_0 c4_1
    have SBL : w.heap.size ≤ w.heap.size := by first | exact Nat.le_refl _ | omega | (simp; done)
    obtain ⟨S, SB⟩ : ∃ S : World → Prop, Go.RowKit.Hid (∀ w' : World, S w' ↔ (Blk w' g3 24 #[wv ph, wv pl] ∧ Blk w' g4 24 #[wv qh, wv ql] ∧ Blk w' v1.heap.size 24 #[wv sh, wv sl] ∧ Blk w' W8.heap.size 30 #[wv S0, wv S1, wv S2, wv S3] ∧ Blk w' v3.heap.size 24 #[wv dh, wv dl] ∧ Below w.heap.size w w')) := ⟨_, Lib.hid (fun _ => Iff.rfl)⟩
    refine wp_region_way (S := S) (by kernel_rfl) (by kernel_rfl) (fun W W' h hb => by obtain ⟨h0, h1, h2, h3, h4, hB⟩ := (SB.out _).1 h; exact (SB.out _).2 ⟨h0.st hb, h1.st hb, h2.st hb, h3.st hb, h4.st hb, hB.trans (hb.mono (Nat.le_trans SBL hB.size))⟩) ((SB.out _).2 (⟨B0.out, B1.out, B2.out, B3.out, B4.out, BB.out.drew⟩)) ?_
    first
      | (refine Way.no 0 (by rfl) (by kernel_rfl) (by rfl) ?_; simp only [Act.put, List.setIfInBounds_toArray, List.set_cons_zero, List.set_cons_succ])
      | (refine' Way.yes 0 (by rfl) (by kernel_rfl) (by rfl) (fun wS hS => ?_) ?_
         rotate_left
         · have hS' := (SB.out _).1 hS
           obtain ⟨hb0, hb1, hb2, hb3, hb4, hB⟩ := hS'
           have c0_0 := hb0.cell 0
           have c0_1 := hb0.cell 1
           have c1_0 := hb1.cell 0
           have c1_1 := hb1.cell 1
           have c2_0 := hb2.cell 0
           have c2_1 := hb2.cell 1
           have c3_0 := hb3.cell 0
           have c3_1 := hb3.cell 1
           have c3_2 := hb3.cell 2
           have c3_3 := hb3.cell 3
           have c4_0 := hb4.cell 0
           have c4_1 := hb4.cell 1
           go_simp
           first
             | exact ⟨rfl, Below.refl _ _⟩
             | (with_reducible exact K2.out _)
             | (with_reducible exact K3.out _)
             | (with_reducible exact K6.out _)
         simp only [Act.put, List.setIfInBounds_toArray, List.set_cons_zero, List.set_cons_succ])
    first
      | (refine Way.no 1 (by rfl) (by kernel_rfl) (by rfl) ?_; simp only [Act.put, List.setIfInBounds_toArray, List.set_cons_zero, List.set_cons_succ])
      | (refine' Way.yes 1 (by rfl) (by kernel_rfl) (by rfl) (fun wS hS => ?_) ?_
         rotate_left
         · have hS' := (SB.out _).1 hS
           obtain ⟨hb0, hb1, hb2, hb3, hb4, hB⟩ := hS'
           have c0_0 := hb0.cell 0
           have c0_1 := hb0.cell 1
           have c1_0 := hb1.cell 0
           have c1_1 := hb1.cell 1
           have c2_0 := hb2.cell 0
           have c2_1 := hb2.cell 1
           have c3_0 := hb3.cell 0
           have c3_1 := hb3.cell 1
           have c3_2 := hb3.cell 2
           have c3_3 := hb3.cell 3
           have c4_0 := hb4.cell 0
           have c4_1 := hb4.cell 1
           go_simp
           first
             | exact ⟨rfl, Below.refl _ _⟩
             | (with_reducible exact K2.out _)
             | (with_reducible exact K3.out _)
             | (with_reducible exact K6.out _)
         simp only [Act.put, List.setIfInBounds_toArray, List.set_cons_zero, List.set_cons_succ])
    first
      | (refine Way.no 2 (by rfl) (by kernel_rfl) (by rfl) ?_; simp only [Act.put, List.setIfInBounds_toArray, List.set_cons_zero, List.set_cons_succ])
      | (refine' Way.yes 2 (by rfl) (by kernel_rfl) (by rfl) (fun wS hS => ?_) ?_
         rotate_left
         · have hS' := (SB.out _).1 hS
           obtain ⟨hb0, hb1, hb2, hb3, hb4, hB⟩ := hS'
           have c0_0 := hb0.cell 0
           have c0_1 := hb0.cell 1
           have c1_0 := hb1.cell 0
           have c1_1 := hb1.cell 1
           have c2_0 := hb2.cell 0
           have c2_1 := hb2.cell 1
           have c3_0 := hb3.cell 0
           have c3_1 := hb3.cell 1
           have c3_2 := hb3.cell 2
           have c3_3 := hb3.cell 3
           have c4_0 := hb4.cell 0
           have c4_1 := hb4.cell 1
           go_simp
           first
             | exact ⟨rfl, Below.refl _ _⟩
             | (with_reducible exact K2.out _)
             | (with_reducible exact K3.out _)
             | (with_reducible exact K6.out _)
         simp only [Act.put, List.setIfInBounds_toArray, List.set_cons_zero, List.set_cons_succ])
    first
      | (refine Way.no 3 (by rfl) (by kernel_rfl) (by rfl) ?_; simp only [Act.put, List.setIfInBounds_toArray, List.set_cons_zero, List.set_cons_succ])
      | (refine' Way.yes 3 (by rfl) (by kernel_rfl) (by rfl) (fun wS hS => ?_) ?_
         rotate_left
         · have hS' := (SB.out _).1 hS
           obtain ⟨hb0, hb1, hb2, hb3, hb4, hB⟩ := hS'
           have c0_0 := hb0.cell 0
           have c0_1 := hb0.cell 1
           have c1_0 := hb1.cell 0
           have c1_1 := hb1.cell 1
           have c2_0 := hb2.cell 0
           have c2_1 := hb2.cell 1
           have c3_0 := hb3.cell 0
           have c3_1 := hb3.cell 1
           have c3_2 := hb3.cell 2
           have c3_3 := hb3.cell 3
           have c4_0 := hb4.cell 0
           have c4_1 := hb4.cell 1
           go_simp
           first
             | exact ⟨rfl, Below.refl _ _⟩
             | (with_reducible exact K2.out _)
             | (with_reducible exact K3.out _)
             | (with_reducible exact K6.out _)
         simp only [Act.put, List.setIfInBounds_toArray, List.set_cons_zero, List.set_cons_succ])
    first
      | (refine Way.no 4 (by rfl) (by kernel_rfl) (by rfl) ?_; simp only [Act.put, List.setIfInBounds_toArray, List.set_cons_zero, List.set_cons_succ])
      | (refine' Way.yes 4 (by rfl) (by kernel_rfl) (by rfl) (fun wS hS => ?_) ?_
         rotate_left
         · have hS' := (SB.out _).1 hS
           obtain ⟨hb0, hb1, hb2, hb3, hb4, hB⟩ := hS'
           have c0_0 := hb0.cell 0
           have c0_1 := hb0.cell 1
           have c1_0 := hb1.cell 0
           have c1_1 := hb1.cell 1
           have c2_0 := hb2.cell 0
           have c2_1 := hb2.cell 1
           have c3_0 := hb3.cell 0
           have c3_1 := hb3.cell 1
           have c3_2 := hb3.cell 2
           have c3_3 := hb3.cell 3
           have c4_0 := hb4.cell 0
           have c4_1 := hb4.cell 1
           go_simp
           first
             | exact ⟨rfl, Below.refl _ _⟩
             | (with_reducible exact K2.out _)
             | (with_reducible exact K3.out _)
             | (with_reducible exact K6.out _)
         simp only [Act.put, List.setIfInBounds_toArray, List.set_cons_zero, List.set_cons_succ])
    first
      | (refine Way.no 5 (by rfl) (by kernel_rfl) (by rfl) ?_; simp only [Act.put, List.setIfInBounds_toArray, List.set_cons_zero, List.set_cons_succ])
      | (refine' Way.yes 5 (by rfl) (by kernel_rfl) (by rfl) (fun wS hS => ?_) ?_
         rotate_left
         · have hS' := (SB.out _).1 hS
           obtain ⟨hb0, hb1, hb2, hb3, hb4, hB⟩ := hS'
           have c0_0 := hb0.cell 0
           have c0_1 := hb0.cell 1
           have c1_0 := hb1.cell 0
           have c1_1 := hb1.cell 1
           have c2_0 := hb2.cell 0
           have c2_1 := hb2.cell 1
           have c3_0 := hb3.cell 0
           have c3_1 := hb3.cell 1
           have c3_2 := hb3.cell 2
           have c3_3 := hb3.cell 3
           have c4_0 := hb4.cell 0
           have c4_1 := hb4.cell 1
           go_simp
           first
             | exact ⟨rfl, Below.refl _ _⟩
             | (with_reducible exact K2.out _)
             | (with_reducible exact K3.out _)
             | (with_reducible exact K6.out _)
         simp only [Act.put, List.setIfInBounds_toArray, List.set_cons_zero, List.set_cons_succ])
    first
      | (refine Way.no 6 (by rfl) (by kernel_rfl) (by rfl) ?_; simp only [Act.put, List.setIfInBounds_toArray, List.set_cons_zero, List.set_cons_succ])
      | (refine' Way.yes 6 (by rfl) (by kernel_rfl) (by rfl) (fun wS hS => ?_) ?_
         rotate_left
         · have hS' := (SB.out _).1 hS
           obtain ⟨hb0, hb1, hb2, hb3, hb4, hB⟩ := hS'
           have c0_0 := hb0.cell 0
           have c0_1 := hb0.cell 1
           have c1_0 := hb1.cell 0
           have c1_1 := hb1.cell 1
           have c2_0 := hb2.cell 0
           have c2_1 := hb2.cell 1
           have c3_0 := hb3.cell 0
           have c3_1 := hb3.cell 1
           have c3_2 := hb3.cell 2
           have c3_3 := hb3.cell 3
           have c4_0 := hb4.cell 0
           have c4_1 := hb4.cell 1
           go_simp
           first
             | exact ⟨rfl, Below.refl _ _⟩
             | (with_reducible exact K2.out _)
             | (with_reducible exact K3.out _)
             | (with_reducible exact K6.out _)
         simp only [Act.put, List.setIfInBounds_toArray, List.set_cons_zero, List.set_cons_succ])
    first
      | (refine Way.no 7 (by rfl) (by kernel_rfl) (by rfl) ?_; simp only [Act.put, List.setIfInBounds_toArray, List.set_cons_zero, List.set_cons_succ])
      | (refine' Way.yes 7 (by rfl) (by kernel_rfl) (by rfl) (fun wS hS => ?_) ?_
         rotate_left
         · have hS' := (SB.out _).1 hS
           obtain ⟨hb0, hb1, hb2, hb3, hb4, hB⟩ := hS'
           have c0_0 := hb0.cell 0
           have c0_1 := hb0.cell 1
           have c1_0 := hb1.cell 0
           have c1_1 := hb1.cell 1
           have c2_0 := hb2.cell 0
           have c2_1 := hb2.cell 1
           have c3_0 := hb3.cell 0
           have c3_1 := hb3.cell 1
           have c3_2 := hb3.cell 2
           have c3_3 := hb3.cell 3
           have c4_0 := hb4.cell 0
           have c4_1 := hb4.cell 1
           go_simp
           first
             | exact ⟨rfl, Below.refl _ _⟩
             | (with_reducible exact K2.out _)
             | (with_reducible exact K3.out _)
             | (with_reducible exact K6.out _)
         simp only [Act.put, List.setIfInBounds_toArray, List.set_cons_zero, List.set_cons_succ])
    refine Way.move 8 (by rfl) (by kernel_rfl) (by rfl) (fun W12 hS => ?_)
    have hS' := (SB.out _).1 hS
    obtain ⟨hb0, hb1, hb2, hb3, hb4, hB⟩ := hS'
    have c0_0 := hb0.cell 0
    have c0_1 := hb0.cell 1
    have c1_0 := hb1.cell 0
    have c1_1 := hb1.cell 1
    have c2_0 := hb2.cell 0
    have c2_1 := hb2.cell 1
    have c3_0 := hb3.cell 0
    have c3_1 := hb3.cell 1
    have c3_2 := hb3.cell 2
    have c3_3 := hb3.cell 3
    have c4_0 := hb4.cell 0
    have c4_1 := hb4.cell 1
    have lt_W12_0 := hb0.lt
    have lt_W12_1 := hb1.lt
    have lt_W12_2 := hb2.lt
    have lt_W12_3 := hb3.lt
    have lt_W12_4 := hb4.lt
    have leB_W12 := Nat.le_trans SBL hB.size
    go_simp
    obtain ⟨S_1, SB_1⟩ : ∃ S_1 : World → Prop, Go.RowKit.Hid (∀ x : World, S_1 x ↔ (Blk x g3 24 #[wv ph, wv pl] ∧ Blk x g4 24 #[wv qh, wv ql] ∧ Blk x v1.heap.size 24 #[wv sh, wv sl] ∧ Blk x W8.heap.size 30 #[wv S0, wv S1, wv S2, wv S3] ∧ Blk x v3.heap.size 24 #[wv dh, wv dl] ∧ (∃ u0 u1 u2 u3, Blk x W12.heap.size 30 #[u0, u1, u2, u3]) ∧ Below w.heap.size w x)) := ⟨_, Lib.hid (fun _ => Iff.rfl)⟩
    have hst : Stays S_1 := fun W W' h hb => by obtain ⟨h0, h1, h2, h3, h4, ⟨u5_0, u5_1, u5_2, u5_3, h5⟩, hB⟩ := (SB_1.out _).1 h; exact (SB_1.out _).2 ⟨h0.st hb, h1.st hb, h2.st hb, h3.st hb, h4.st hb, ⟨u5_0, u5_1, u5_2, u5_3, h5.st hb⟩, hB.trans (hb.mono (Nat.le_trans SBL hB.size))⟩
    have hle : ∀ x, S_1 x → S x := fun x h => by obtain ⟨h0, h1, h2, h3, h4, ⟨u5_0, u5_1, u5_2, u5_3, h5⟩, hB⟩ := (SB_1.out _).1 h; exact (SB.out _).2 ⟨h0, h1, h2, h3, h4, hB⟩
    refine ⟨S_1, hst, hle, (SB_1.out _).2 ⟨hb0.alloc _, hb1.alloc _, hb2.alloc _, hb3.alloc _, hb4.alloc _, ⟨_, _, _, _, Blk.new W12 _ _⟩, hB.alloc (Nat.le_trans SBL hB.size) _⟩, ?_⟩
    try simp only [Act.put, List.setIfInBounds_toArray, List.set_cons_zero, List.set_cons_succ]
    refine Way.move 9 (by rfl) (by kernel_rfl) (by rfl) (fun wS hS => ?_)
    have hS' := (SB_1.out _).1 hS
    obtain ⟨hb0, hb1, hb2, hb3, hb4, ⟨u5_0, u5_1, u5_2, u5_3, hb5⟩, hB⟩ := hS'
    have c0_0 := hb0.cell 0
    have c0_1 := hb0.cell 1
    have c1_0 := hb1.cell 0
    have c1_1 := hb1.cell 1
    have c2_0 := hb2.cell 0
    have c2_1 := hb2.cell 1
    have c3_0 := hb3.cell 0
    have c3_1 := hb3.cell 1
    have c3_2 := hb3.cell 2
    have c3_3 := hb3.cell 3
    have c4_0 := hb4.cell 0
    have c4_1 := hb4.cell 1
    have c5_0 := hb5.cell 0
    have c5_1 := hb5.cell 1
    have c5_2 := hb5.cell 2
    have c5_3 := hb5.cell 3
    have f5_0 := hb5.frozen 0
    have f5_1 := hb5.frozen 1
    have f5_2 := hb5.frozen 2
    have f5_3 := hb5.frozen 3
    go_simp
    obtain ⟨S_2, SB_2⟩ : ∃ S_2 : World → Prop, Go.RowKit.Hid (∀ x : World, S_2 x ↔ (Blk x g3 24 #[wv ph, wv pl] ∧ Blk x g4 24 #[wv qh, wv ql] ∧ Blk x v1.heap.size 24 #[wv sh, wv sl] ∧ Blk x W8.heap.size 30 #[wv S0, wv S1, wv S2, wv S3] ∧ Blk x v3.heap.size 24 #[wv dh, wv dl] ∧ Blk x W12.heap.size 30 #[wv D0, wv D1, wv D2, wv D3] ∧ Below w.heap.size w x)) := ⟨_, Lib.hid (fun _ => Iff.rfl)⟩
    have hst : Stays S_2 := fun W W' h hb => by obtain ⟨h0, h1, h2, h3, h4, h5, hB⟩ := (SB_2.out _).1 h; exact (SB_2.out _).2 ⟨h0.st hb, h1.st hb, h2.st hb, h3.st hb, h4.st hb, h5.st hb, hB.trans (hb.mono (Nat.le_trans SBL hB.size))⟩
    have hle : ∀ x, S_2 x → S_1 x := fun x h => by obtain ⟨h0, h1, h2, h3, h4, h5, hB⟩ := (SB_2.out _).1 h; exact (SB_1.out _).2 ⟨h0, h1, h2, h3, h4, ⟨_, _, _, _, h5⟩, hB⟩
    refine ⟨S_2, hst, hle, (SB_2.out _).2 ⟨((((hb0.far (by first | (simp; done) | (simp; omega)) _).far (by first | (simp; done) | (simp; omega)) _).far (by first | (simp; done) | (simp; omega)) _).far (by first | (simp; done) | (simp; omega)) _), ((((hb1.far (by first | (simp; done) | (simp; omega)) _).far (by first | (simp; done) | (simp; omega)) _).far (by first | (simp; done) | (simp; omega)) _).far (by first | (simp; done) | (simp; omega)) _), ((((hb2.far (by first | (simp; done) | (simp; omega)) _).far (by first | (simp; done) | (simp; omega)) _).far (by first | (simp; done) | (simp; omega)) _).far (by first | (simp; done) | (simp; omega)) _), ((((hb3.far (by first | (simp; done) | (simp; omega)) _).far (by first | (simp; done) | (simp; omega)) _).far (by first | (simp; done) | (simp; omega)) _).far (by first | (simp; done) | (simp; omega)) _), ((((hb4.far (by first | (simp; done) | (simp; omega)) _).far (by first | (simp; done) | (simp; omega)) _).far (by first | (simp; done) | (simp; omega)) _).far (by first | (simp; done) | (simp; omega)) _), ((((hb5.set1 0 _).set1 1 _).set1 2 _).set1 3 _), ((((hB.setCell (by first | (simp; done) | (simp; omega)) _).setCell (by first | (simp; done) | (simp; omega)) _).setCell (by first | (simp; done) | (simp; omega)) _).setCell (by first | (simp; done) | (simp; omega)) _)⟩, ?_⟩
    try simp only [Act.put, List.setIfInBounds_toArray, List.set_cons_zero, List.set_cons_succ]
    first
      | (refine Way.no 10 (by rfl) (by kernel_rfl) (by rfl) ?_; simp only [Act.put, List.setIfInBounds_toArray, List.set_cons_zero, List.set_cons_succ])
      | (refine' Way.yes 10 (by rfl) (by kernel_rfl) (by rfl) (fun wS hS => ?_) ?_
         rotate_left
         · have hS' := (SB_2.out _).1 hS
           obtain ⟨hb0, hb1, hb2, hb3, hb4, hb5, hB⟩ := hS'
           have c0_0 := hb0.cell 0
           have c0_1 := hb0.cell 1
           have c1_0 := hb1.cell 0
           have c1_1 := hb1.cell 1
           have c2_0 := hb2.cell 0
           have c2_1 := hb2.cell 1
           have c3_0 := hb3.cell 0
           have c3_1 := hb3.cell 1
           have c3_2 := hb3.cell 2
           have c3_3 := hb3.cell 3
           have c4_0 := hb4.cell 0
           have c4_1 := hb4.cell 1
           have c5_0 := hb5.cell 0
           have c5_1 := hb5.cell 1
           have c5_2 := hb5.cell 2
           have c5_3 := hb5.cell 3
           go_simp
           first
             | exact ⟨rfl, Below.refl _ _⟩
         simp only [Act.put, List.setIfInBounds_toArray, List.set_cons_zero, List.set_cons_succ])
    refine Way.done (by kernel_rfl) (fun v4 hS => ?_)
    have hS' := (SB_2.out _).1 hS
    obtain ⟨hb0, hb1, hb2, hb3, hb4, hb5, hB⟩ := hS'
    have c0_0 := hb0.cell 0
    have c0_1 := hb0.cell 1
    have c1_0 := hb1.cell 0
    have c1_1 := hb1.cell 1
    have c2_0 := hb2.cell 0
    have c2_1 := hb2.cell 1
    have c3_0 := hb3.cell 0
    have c3_1 := hb3.cell 1
    have c3_2 := hb3.cell 2
    have c3_3 := hb3.cell 3
    have c4_0 := hb4.cell 0
    have c4_1 := hb4.cell 1
    have c5_0 := hb5.cell 0
    have c5_1 := hb5.cell 1
    have c5_2 := hb5.cell 2
    have c5_3 := hb5.cell 3
    clear hS
    have B0 := Lib.hid hb0
    have B1 := Lib.hid hb1
    have B2 := Lib.hid hb2
    have B3 := Lib.hid hb3
    have B4 := Lib.hid hb4
    have B5 := Lib.hid hb5
    have BB := Lib.hid hB
    clear hB hb0 hb1 hb2 hb3 hb4 hb5
    go_wp2_with fail
    clear c0_0 c0_1 c1_0 c1_1 c2_0 c2_1 c3_0 c3_1 c3_2 c3_3 c4_0 c4_1 c5_0 c5_1 c5_2 c5_3
    obtain ⟨S, SF⟩ : ∃ S : World → Prop, Go.RowKit.Hid (∀ w' : World, S w' ↔ (Blk w' g3 24 #[wv ph, wv pl] ∧ Blk w' g4 24 #[wv qh, wv ql] ∧ Blk w' v1.heap.size 24 #[wv sh, wv sl] ∧ Blk w' W8.heap.size 30 #[wv S0, wv S1, wv S2, wv S3] ∧ Blk w' v3.heap.size 24 #[wv dh, wv dl] ∧ Blk w' W12.heap.size 30 #[wv D0, wv D1, wv D2, wv D3] ∧ Below w.heap.size w w')) := ⟨_, Lib.hid (fun _ => Iff.rfl)⟩
    refine wp_region_sure (S := S) (by kernel_rfl) (by kernel_rfl) ((SF.out _).2 (⟨B0.out, B1.out, B2.out, B3.out, B4.out, B5.out, BB.out.drew⟩)) ?_
    repeat
      (first
        | (refine SureL.no (by rfl) ?_; simp only [Act.put, List.setIfInBounds_toArray, List.set_cons_zero, List.set_cons_succ])
        | (refine' SureL.yes (by rfl) (fun wS hS => ?_) ?_
           rotate_left
           · have hS' := (SF.out _).1 hS
             obtain ⟨h0, h1, h2, h3, h4, h5, hB⟩ := hS'
             have e0_0 := h0.cell 0
             have e0_1 := h0.cell 1
             have e1_0 := h1.cell 0
             have e1_1 := h1.cell 1
             have e2_0 := h2.cell 0
             have e2_1 := h2.cell 1
             have e3_0 := h3.cell 0
             have e3_1 := h3.cell 1
             have e3_2 := h3.cell 2
             have e3_3 := h3.cell 3
             have e4_0 := h4.cell 0
             have e4_1 := h4.cell 1
             have e5_0 := h5.cell 0
             have e5_1 := h5.cell 1
             have e5_2 := h5.cell 2
             have e5_3 := h5.cell 3
             go_simp
             first
               | exact ⟨rfl, hS⟩
               | ((with_reducible refine (K2.out _).mono ?_); rintro e w' ⟨rfl, hb⟩; exact ⟨rfl, (SF.out _).2 ⟨h0.st hb, h1.st hb, h2.st hb, h3.st hb, h4.st hb, h5.st hb, keepb hB hb⟩⟩)
               | ((with_reducible refine (K3.out _).mono ?_); rintro e w' ⟨rfl, hb⟩; exact ⟨rfl, (SF.out _).2 ⟨h0.st hb, h1.st hb, h2.st hb, h3.st hb, h4.st hb, h5.st hb, keepb hB hb⟩⟩)
               | ((with_reducible refine (K7.out _).mono ?_); rintro e w' ⟨rfl, hb⟩; exact ⟨rfl, (SF.out _).2 ⟨h0.st hb, h1.st hb, h2.st hb, h3.st hb, h4.st hb, h5.st hb, keepb hB hb⟩⟩)
               | ((with_reducible refine (K8.out _).mono ?_); rintro e w' ⟨rfl, hb⟩; exact ⟨rfl, (SF.out _).2 ⟨h0.st hb, h1.st hb, h2.st hb, h3.st hb, h4.st hb, h5.st hb, keepb hB hb⟩⟩)
               | ((with_reducible refine (K9.out _).mono ?_); rintro e w' ⟨rfl, hb⟩; exact ⟨rfl, (SF.out _).2 ⟨h0.st hb, h1.st hb, h2.st hb, h3.st hb, h4.st hb, h5.st hb, keepb hB hb⟩⟩)
               | ((with_reducible refine (K10.out _).mono ?_); rintro e w' ⟨rfl, hb⟩; exact ⟨rfl, (SF.out _).2 ⟨h0.st hb, h1.st hb, h2.st hb, h3.st hb, h4.st hb, h5.st hb, keepb hB hb⟩⟩)
               | ((with_reducible refine (K11.out _).mono ?_); rintro e w' ⟨rfl, hb⟩; exact ⟨rfl, (SF.out _).2 ⟨h0.st hb, h1.st hb, h2.st hb, h3.st hb, h4.st hb, h5.st hb, keepb hB hb⟩⟩)
               | ((with_reducible refine (K12.out _).mono ?_); rintro e w' ⟨rfl, hb⟩; exact ⟨rfl, (SF.out _).2 ⟨h0.st hb, h1.st hb, h2.st hb, h3.st hb, h4.st hb, h5.st hb, keepb hB hb⟩⟩)
               | ((with_reducible refine (K13.out _).mono ?_); rintro e w' ⟨rfl, hb⟩; exact ⟨rfl, (SF.out _).2 ⟨h0.st hb, h1.st hb, h2.st hb, h3.st hb, h4.st hb, h5.st hb, keepb hB hb⟩⟩)
               | ((with_reducible refine (K14.out _).mono ?_); rintro e w' ⟨rfl, hb⟩; exact ⟨rfl, (SF.out _).2 ⟨h0.st hb, h1.st hb, h2.st hb, h3.st hb, h4.st hb, h5.st hb, keepb hB hb⟩⟩)
               | ((with_reducible refine (K15.out _).mono ?_); rintro e w' ⟨rfl, hb⟩; exact ⟨rfl, (SF.out _).2 ⟨h0.st hb, h1.st hb, h2.st hb, h3.st hb, h4.st hb, h5.st hb, keepb hB hb⟩⟩)
               | ((with_reducible refine (K16.out _).mono ?_); rintro e w' ⟨rfl, hb⟩; exact ⟨rfl, (SF.out _).2 ⟨h0.st hb, h1.st hb, h2.st hb, h3.st hb, h4.st hb, h5.st hb, keepb hB hb⟩⟩)
               | ((with_reducible refine (K17.out _).mono ?_); rintro e w' ⟨rfl, hb⟩; exact ⟨rfl, (SF.out _).2 ⟨h0.st hb, h1.st hb, h2.st hb, h3.st hb, h4.st hb, h5.st hb, keepb hB hb⟩⟩)
               | ((with_reducible refine (K18.out _).mono ?_); rintro e w' ⟨rfl, hb⟩; exact ⟨rfl, (SF.out _).2 ⟨h0.st hb, h1.st hb, h2.st hb, h3.st hb, h4.st hb, h5.st hb, keepb hB hb⟩⟩)
               | (go_at_call 16; refine (wakes_yes _).mono ?_; rintro e w' ⟨rfl, hb⟩; exact ⟨rfl, (SF.out _).2 ⟨h0.st hb, h1.st hb, h2.st hb, h3.st hb, h4.st hb, h5.st hb, keepb hB hb⟩⟩)
           simp only [Act.put, List.setIfInBounds_toArray, List.set_cons_zero, List.set_cons_succ]))
    refine SureL.nil ?_
    intro v12 hE
    obtain ⟨h0, h1, h2, h3, h4, h5, hB⟩ := (SF.out _).1 hE
    have B0 := Lib.hid h0
    have B1 := Lib.hid h1
    have B2 := Lib.hid h2
    have B3 := Lib.hid h3
    have B4 := Lib.hid h4
    have B5 := Lib.hid h5
    have BB := Lib.hid hB
    clear hE hB h0 h1 h2 h3 h4 h5 S SF
    have c0_0 := B0.out.cell 0
    have c0_1 := B0.out.cell 1
    have c1_0 := B1.out.cell 0
    have c1_1 := B1.out.cell 1
    have c2_0 := B2.out.cell 0
    have c2_1 := B2.out.cell 1
    have c3_0 := B3.out.cell 0
    have c3_1 := B3.out.cell 1
    have c3_2 := B3.out.cell 2
    have c3_3 := B3.out.cell 3
    have c4_0 := B4.out.cell 0
    have c4_1 := B4.out.cell 1
    have c5_0 := B5.out.cell 0
    have c5_1 := B5.out.cell 1
    have c5_2 := B5.out.cell 2
    have c5_3 := B5.out.cell 3
    go_wp2_with fail
    go_ret
    exact ⟨rfl, BB.out⟩

theorem walk (a0_0 a0_1 a0_2 a0_3 a0_4 : Int) (w : World) (w0_0 : (Lit.int .u64 a0_0).wf = true) (w0_1 : (Lit.int .u64 a0_1).wf = true) (w0_2 : (Lit.int .u64 a0_2).wf = true) (w0_3 : (Lit.int .u64 a0_3).wf = true) (w0_4 : (Lit.int .i64 a0_4).wf = true) :
    Calls Tryd.prog 6 #[.agg #[.int .u64 a0_0, .int .u64 a0_1, .int .u64 a0_2, .int .u64 a0_3, .int .i64 a0_4]] w fun e w' => e = .returned (.bool true) ∧ Below w.heap.size w w' := by
  have b0 := bounds_u64 w0_0
  have b1 := bounds_u64 w0_1
  have b2 := bounds_u64 w0_2
  have b3 := bounds_u64 w0_3
  have hn : a0_4 ≤ 9223372036854775807 := by have h := w0_4; simp [Lit.wf] at h; exact h.2
  obtain ⟨n0, rfl⟩ := Int.eq_ofNat_of_zero_le b0.1
  obtain ⟨n1, rfl⟩ := Int.eq_ofNat_of_zero_le b1.1
  obtain ⟨n2, rfl⟩ := Int.eq_ofNat_of_zero_le b2.1
  obtain ⟨n3, rfl⟩ := Int.eq_ofNat_of_zero_le b3.1
  have h0 : n0 < W64 := by unfold W64; omega
  have h1 : n1 < W64 := by unfold W64; omega
  have h2 : n2 < W64 := by unfold W64; omega
  have h3 : n3 < W64 := by unfold W64; omega
  have hP := p_lt h0 h1
  have hQ := p_lt h2 h3
  have p1 := pHi_mk (h := n0) h1
  have p2 := pLo_mk (h := n0) h1
  have p3 := pHi_mk (h := n2) h3
  have p4 := pLo_mk (h := n2) h3
  generalize hPe : W64 * n0 + n1 = P at *
  generalize hQe : W64 * n2 + n3 = Q at *
  rw [← p1, ← p2, ← p3, ← p4]
  clear hPe hQe b0 b1 b2 b3
  have hp0 : 0 < P128 := by unfold P128 W64; omega
  have hS : (P + Q) % P128 < P128 := Nat.mod_lt _ hp0
  have hD : (P + P128 - Q) % P128 < P128 := Nat.mod_lt _ hp0
  have hA : P * 2 ^ cutN a0_4 % P128 < P128 := Nat.mod_lt _ hp0
  have hC : P / 2 ^ cutN a0_4 < P128 := Nat.lt_of_le_of_lt (Nat.div_le_self _ _) hP
  exact walkK (pHi P) (pLo P) (pHi Q) (pLo Q) _ _ _ _ _ _ _ _ (q0 P) (q1 P) (q2 P) (q3 P) (q0 Q) (q1 Q) (q2 Q) (q3 Q) _ _ _ _ _ _ _ _ _ _ _ _ _ _ _ _ a0_4 _ _ _ _ w
    (fun W => add_pair P Q hP hQ W) (fun W => four_any P hP W) (fun W => four_any Q hQ W) (fun W => radd_any P Q hP hQ W) (fun W => sub_pair P Q hP hQ W) (fun W => rsub_any P Q hP hQ W) (fun W => pair_any _ hS W) (fun W => pair_any _ hD W)
    (fun W => shl_pair P a0_4 hP W) (fun W => rshl_any P a0_4 hP hn W) (fun W => pair_any _ hA W) (fun W => shr_pair P a0_4 hP W) (fun W => rshr_any P a0_4 hP hn W) (fun W => pair_any _ hC W)
    (fun W => cmp_pair P Q hP hQ W) (fun W => rcmp_any P Q hP hQ W) (fun W => len_pair P hP W) (fun W => rlen_any P hP W)
end Go.Proofs.YtnghcpgdfkchdaaDoor.widePairs
