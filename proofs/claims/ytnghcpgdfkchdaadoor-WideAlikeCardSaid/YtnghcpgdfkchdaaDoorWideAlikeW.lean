/- The walk of WideAlike. -/
import Derived.Test.YtnghcpgdfkchdaaDoorWideN
import Derived.Test.YtnghcpgdfkchdaaDoorNatO
import Derived.Test.YtnghcpgdfkchdaaDoorNatK
import Derived.Test.YtnghcpgdfkchdaaDoorFourE
import Derived.Deep.DeepCutAuto
import Derived.IntWalk
import Derived.Test.YtnghcpgdfkchdaaDoorWideAlikeZ
namespace Go.Proofs.YtnghcpgdfkchdaaDoor.wideAlike
open Go.RowKit
attribute [local go_sem] SGives_value SGives_skip SGives_enter CGives_value CGives_skip CGives_enter MGives_value MGives_skip MGives_enter
set_option linter.unusedSimpArgs false
set_option linter.unusedVariables false

set_option maxRecDepth 100000 in
set_option maxHeartbeats 8000000 in
theorem walkP (hi lo d : Nat) (hd0 : 0 < d) (hh : hi < W64) (hl0 : lo < W64) (hd : d < W64) (w : World) :
    Calls Tryd.prog 10 #[wv hi, wv lo, wv d] w fun e w' => e = .returned (.bool true) ∧ Below w.heap.size w w' := by
  have hN : W64 * hi + lo < P128 := p_lt hh hl0
  have hpv := pv_mk (hi := hi) hl0
  have HHI := Lib.hid hh
  have HLO := Lib.hid hl0
  have HD := Lib.hid hd
  have HN := Lib.hid hN
  have HDD0 := Lib.hid hd0
  clear hh hl0 hd hN hd0
  go_enter Tryd.func10, Tryd.ntmps10
  have HPV := Lib.hid hpv
  clear hpv
  go_wp2_with fail
  refine (of_any hi _ HHI.out).mono ?_
  rintro e w1 ⟨A1, n1, c1, rfl, hl, hb⟩
  have BB := Lib.hid hb
  have N1 := Lib.hid hl
  clear hb hl
  go_wp2_with fail
  refine (shl_any A1 n1 c1 hi _ N1.out HHI.out).mono ?_
  rintro e w2 ⟨A2, n2, c2, rfl, hl, hb⟩
  have lw2 : w.heap.size ≤ w2.heap.size := (keepb BB.out hb).size
  have BB := (keepb BB.out hb).alloc (keepb BB.out hb).size (.cells #[.slice A2 n2 c2] 42)
  have B0 := Blk.new w2 42 #[.slice A2 n2 c2]
  have N2 := hl.below (below_new w2 (.cells #[.slice A2 n2 c2] 42))
  clear hb hl N1
  go_upto_region 4 with fail
  have SAL : w.heap.size ≤ w.heap.size := Nat.le_refl _
  obtain ⟨S, SA⟩ : ∃ S : World → Prop, Go.RowKit.Hid (∀ x : World, S x ↔ (Blk x w2.heap.size 42 #[.slice A2 n2 c2] ∧ NatL x A2 n2 c2 (W64 * hi) ∧ Below w.heap.size w x)) := ⟨_, Lib.hid (fun _ => Iff.rfl)⟩
  refine wp_region_way (S := S) (by kernel_rfl) (by kernel_rfl) (fun W W' h hb => by obtain ⟨hb0, hn0, hB⟩ := (SA.out _).1 h; exact (SA.out _).2 ⟨hb0.st hb, hn0.below hb, hB.trans (hb.mono (Nat.le_trans SAL hB.size))⟩) ((SA.out _).2 ⟨B0.drew, N2.below (below_drewN (Below.refl _ _) 1), BB.drew⟩) ?_
  first
    | (refine Way.no 0 (by rfl) (by kernel_rfl) (by rfl) ?_; simp only [Act.put, List.setIfInBounds_toArray, List.set_cons_zero, List.set_cons_succ])
    | (refine' Way.yes 0 (by rfl) (by kernel_rfl) (by rfl) (fun wS hS => ?_) ?_
       rotate_left
       · have hS' := (SA.out _).1 hS
         obtain ⟨hb0, hn0, hB⟩ := hS'
         have c0_0 := hb0.cell 0
         go_simp
         first
           | exact ⟨rfl, Below.refl _ _⟩
       simp only [Act.put, List.setIfInBounds_toArray, List.set_cons_zero, List.set_cons_succ])
  first
    | (refine Way.no 1 (by rfl) (by kernel_rfl) (by rfl) ?_; simp only [Act.put, List.setIfInBounds_toArray, List.set_cons_zero, List.set_cons_succ])
    | (refine' Way.yes 1 (by rfl) (by kernel_rfl) (by rfl) (fun wS hS => ?_) ?_
       rotate_left
       · have hS' := (SA.out _).1 hS
         obtain ⟨hb0, hn0, hB⟩ := hS'
         have c0_0 := hb0.cell 0
         go_simp
         first
           | exact ⟨rfl, Below.refl _ _⟩
       simp only [Act.put, List.setIfInBounds_toArray, List.set_cons_zero, List.set_cons_succ])
  refine Way.move 2 (by rfl) (by kernel_rfl) (by rfl) (fun V3 hS => ?_)
  have hS' := (SA.out _).1 hS
  obtain ⟨hb0, hn0, hB⟩ := hS'
  have c0_0 := hb0.cell 0
  go_simp
  with_reducible refine (of_any lo _ HLO.out).mono ?_
  rintro e w3 ⟨A3, n3, c3, rfl, hl, hb⟩
  refine ⟨_, rfl, ?_⟩
  obtain ⟨S_1, SA_1⟩ : ∃ S_1 : World → Prop, Go.RowKit.Hid (∀ x : World, S_1 x ↔ (Blk x w2.heap.size 42 #[.slice A2 n2 c2] ∧ NatL x A2 n2 c2 (W64 * hi) ∧ NatL x A3 n3 c3 (lo) ∧ Below w.heap.size w x)) := ⟨_, Lib.hid (fun _ => Iff.rfl)⟩
  have hst : Stays S_1 := fun W W' h hb => by obtain ⟨hb0, hn0, hn1, hB⟩ := (SA_1.out _).1 h; exact (SA_1.out _).2 ⟨hb0.st hb, hn0.below hb, hn1.below hb, hB.trans (hb.mono (Nat.le_trans SAL hB.size))⟩
  have hle : ∀ x, S_1 x → S x := fun x h => by obtain ⟨hb0, hn0, hn1, hB⟩ := (SA_1.out _).1 h; exact (SA.out _).2 ⟨hb0, hn0, hB⟩
  refine Moved.keep S_1 hst hle ((SA_1.out _).2 ⟨hb0.st hb, hn0.below hb, hl, hB.trans (hb.mono (Nat.le_trans SAL hB.size))⟩) ?_
  clear hst hle
  try simp only [Act.put, List.setIfInBounds_toArray, List.set_cons_zero, List.set_cons_succ]
  refine Way.move 3 (by rfl) (by kernel_rfl) (by rfl) (fun V4 hS => ?_)
  have hS' := (SA_1.out _).1 hS
  obtain ⟨hb0, hn0, hn1, hB⟩ := hS'
  have c0_0 := hb0.cell 0
  go_simp
  with_reducible refine (add_any _ _ _ _ _ _ _ _ _ hn0 hn1 HN.out).mono ?_
  rintro e w4 ⟨A4, n4, c4, rfl, hl, hb⟩
  refine ⟨_, rfl, ?_⟩
  obtain ⟨S_2, SA_2⟩ : ∃ S_2 : World → Prop, Go.RowKit.Hid (∀ x : World, S_2 x ↔ (Blk x w2.heap.size 42 #[.slice A2 n2 c2] ∧ NatL x A2 n2 c2 (W64 * hi) ∧ NatL x A3 n3 c3 (lo) ∧ NatL x A4 n4 c4 (W64 * hi + lo) ∧ Below w.heap.size w x)) := ⟨_, Lib.hid (fun _ => Iff.rfl)⟩
  have hst : Stays S_2 := fun W W' h hb => by obtain ⟨hb0, hn0, hn1, hn2, hB⟩ := (SA_2.out _).1 h; exact (SA_2.out _).2 ⟨hb0.st hb, hn0.below hb, hn1.below hb, hn2.below hb, hB.trans (hb.mono (Nat.le_trans SAL hB.size))⟩
  have hle : ∀ x, S_2 x → S_1 x := fun x h => by obtain ⟨hb0, hn0, hn1, hn2, hB⟩ := (SA_2.out _).1 h; exact (SA_1.out _).2 ⟨hb0, hn0, hn1, hB⟩
  refine Moved.keep S_2 hst hle ((SA_2.out _).2 ⟨hb0.st hb, hn0.below hb, hn1.below hb, hl, hB.trans (hb.mono (Nat.le_trans SAL hB.size))⟩) ?_
  clear hst hle
  try simp only [Act.put, List.setIfInBounds_toArray, List.set_cons_zero, List.set_cons_succ]
  first
    | (refine Way.no 4 (by rfl) (by kernel_rfl) (by rfl) ?_; simp only [Act.put, List.setIfInBounds_toArray, List.set_cons_zero, List.set_cons_succ])
    | (refine' Way.yes 4 (by rfl) (by kernel_rfl) (by rfl) (fun wS hS => ?_) ?_
       rotate_left
       · have hS' := (SA_2.out _).1 hS
         obtain ⟨hb0, hn0, hn1, hn2, hB⟩ := hS'
         have c0_0 := hb0.cell 0
         go_simp
         first
           | exact ⟨rfl, Below.refl _ _⟩
       simp only [Act.put, List.setIfInBounds_toArray, List.set_cons_zero, List.set_cons_succ])
  first
    | (refine Way.no 5 (by rfl) (by kernel_rfl) (by rfl) ?_; simp only [Act.put, List.setIfInBounds_toArray, List.set_cons_zero, List.set_cons_succ])
    | (refine' Way.yes 5 (by rfl) (by kernel_rfl) (by rfl) (fun wS hS => ?_) ?_
       rotate_left
       · have hS' := (SA_2.out _).1 hS
         obtain ⟨hb0, hn0, hn1, hn2, hB⟩ := hS'
         have c0_0 := hb0.cell 0
         go_simp
         first
           | exact ⟨rfl, Below.refl _ _⟩
       simp only [Act.put, List.setIfInBounds_toArray, List.set_cons_zero, List.set_cons_succ])
  first
    | (refine Way.no 6 (by rfl) (by kernel_rfl) (by rfl) ?_; simp only [Act.put, List.setIfInBounds_toArray, List.set_cons_zero, List.set_cons_succ])
    | (refine' Way.yes 6 (by rfl) (by kernel_rfl) (by rfl) (fun wS hS => ?_) ?_
       rotate_left
       · have hS' := (SA_2.out _).1 hS
         obtain ⟨hb0, hn0, hn1, hn2, hB⟩ := hS'
         have c0_0 := hb0.cell 0
         go_simp
         first
           | exact ⟨rfl, Below.refl _ _⟩
       simp only [Act.put, List.setIfInBounds_toArray, List.set_cons_zero, List.set_cons_succ])
  refine Way.move 7 (by rfl) (by kernel_rfl) (by rfl) (fun wS hS => ?_)
  have hS' := (SA_2.out _).1 hS
  obtain ⟨hb0, hn0, hn1, hn2, hB⟩ := hS'
  have c0_0 := hb0.cell 0
  have f0_0 := hb0.frozen 0
  go_simp
  obtain ⟨S_3, SA_3⟩ : ∃ S_3 : World → Prop, Go.RowKit.Hid (∀ x : World, S_3 x ↔ (Blk x w2.heap.size 42 #[.slice A4 n4 c4] ∧ NatL x A2 n2 c2 (W64 * hi) ∧ NatL x A3 n3 c3 (lo) ∧ NatL x A4 n4 c4 (W64 * hi + lo) ∧ Below w.heap.size w x)) := ⟨_, Lib.hid (fun _ => Iff.rfl)⟩
  have hst : Stays S_3 := fun W W' h hb => by obtain ⟨hb0, hn0, hn1, hn2, hB⟩ := (SA_3.out _).1 h; exact (SA_3.out _).2 ⟨hb0.st hb, hn0.below hb, hn1.below hb, hn2.below hb, hB.trans (hb.mono (Nat.le_trans SAL hB.size))⟩
  refine Moved.turn S_3 hst (by kernel_rfl) ((SA_3.out _).2 ⟨(hb0.set1 0 _), (hn0.set hb0 (by decide) _), (hn1.set hb0 (by decide) _), (hn2.set hb0 (by decide) _), (hB.setCell (by first | (simp; done) | (simp; omega)) _)⟩) ?_
  clear hst
  try simp only [Act.put, List.setIfInBounds_toArray, List.set_cons_zero, List.set_cons_succ]
  first
    | (refine Way.no 8 (by rfl) (by kernel_rfl) (by rfl) ?_; simp only [Act.put, List.setIfInBounds_toArray, List.set_cons_zero, List.set_cons_succ])
    | (refine' Way.yes 8 (by rfl) (by kernel_rfl) (by rfl) (fun wS hS => ?_) ?_
       rotate_left
       · have hS' := (SA_3.out _).1 hS
         obtain ⟨hb0, hn0, hn1, hn2, hB⟩ := hS'
         have c0_0 := hb0.cell 0
         go_simp
         first
           | exact ⟨rfl, Below.refl _ _⟩
       simp only [Act.put, List.setIfInBounds_toArray, List.set_cons_zero, List.set_cons_succ])
  refine Way.done (by kernel_rfl) (fun wE hS => ?_)
  have hS' := (SA_3.out _).1 hS
  obtain ⟨hb0, hn0, hn1, hn2, hB⟩ := hS'
  have c0_0 := hb0.cell 0
  clear hS
  have B0 := Lib.hid hb0
  have N0 := Lib.hid hn2
  have HBB := Lib.hid hB
  have lw4 : w.heap.size ≤ w2.heap.size := lw2
  clear hb0 hn0 hn1 hn2 hB N2 BB
  go_upto_region 7 with fail
  have hd0 := HDD0.out
  clear HDD0
  · have HD0 := Lib.hid hd0
    have t0 : ((d : Int) == 0) = false := by simp; omega
    have HT := Lib.hid t0
    clear hd0 t0
    go_cut [8, 9, 10] from 39 to 46 (fun s8 s9 s10 wx => ∃ (g9 g10 : Nat) (A6 : Option Addr) (n6 c6 : Nat) (A7 : Option Addr) (n7 c7 : Nat), s8 = .nilIface ∧ s9 = .pointer (some ⟨g9, 0, none⟩) ∧ s10 = .pointer (some ⟨g10, 0, none⟩) ∧ Blk wx w2.heap.size 42 #[.slice A4 n4 c4] ∧ Blk wx g9 42 #[.slice A6 n6 c6] ∧ Blk wx g10 42 #[.slice A7 n7 c7] ∧ NatL wx A4 n4 c4 (W64 * hi + lo) ∧ NatL wx A6 n6 c6 ((W64 * hi + lo) / d) ∧ NatL wx A7 n7 c7 ((W64 * hi + lo) % d) ∧ Below w.heap.size w wx)
    case first =>
      have SBL : w.heap.size ≤ w.heap.size := Nat.le_refl _
      obtain ⟨S, SB⟩ : ∃ S : World → Prop, Go.RowKit.Hid (∀ x : World, S x ↔ (Blk x w2.heap.size 42 #[.slice A4 n4 c4] ∧ NatL x A4 n4 c4 (W64 * hi + lo) ∧ Below w.heap.size w x)) := ⟨_, Lib.hid (fun _ => Iff.rfl)⟩
      refine wp_region_way (S := S) (by kernel_rfl) (by kernel_rfl) (fun W W' h hb => by obtain ⟨hb0, hn0, hB⟩ := (SB.out _).1 h; exact (SB.out _).2 ⟨hb0.st hb, hn0.below hb, hB.trans (hb.mono (Nat.le_trans SBL hB.size))⟩) ((SB.out _).2 ⟨B0.out.drew, N0.out.below (below_drewN (Below.refl _ _) 1), HBB.out.drew⟩) ?_
      first
        | (refine Way.no 0 (by rfl) (by kernel_rfl) (by rfl) ?_; simp only [Act.put, List.setIfInBounds_toArray, List.set_cons_zero, List.set_cons_succ])
        | (refine' Way.yes 0 (by rfl) (by kernel_rfl) (by rfl) (fun wS hS => ?_) ?_
           rotate_left
           · have hS' := (SB.out _).1 hS
             obtain ⟨hb0, hn0, hB⟩ := hS'
             have c0_0 := hb0.cell 0
             go_simp
             first
               | exact ⟨rfl, Below.refl _ _⟩
           simp only [Act.put, List.setIfInBounds_toArray, List.set_cons_zero, List.set_cons_succ])
      first
        | (refine Way.no 1 (by rfl) (by kernel_rfl) (by rfl) ?_; simp only [Act.put, List.setIfInBounds_toArray, List.set_cons_zero, List.set_cons_succ])
        | (refine' Way.yes 1 (by rfl) (by kernel_rfl) (by rfl) (fun wS hS => ?_) ?_
           rotate_left
           · have hS' := (SB.out _).1 hS
             obtain ⟨hb0, hn0, hB⟩ := hS'
             have c0_0 := hb0.cell 0
             go_simp
             first
               | exact ⟨rfl, Below.refl _ _⟩
           simp only [Act.put, List.setIfInBounds_toArray, List.set_cons_zero, List.set_cons_succ])
      refine Way.move3 2 8 9 (by rfl) (by rfl) (by rfl) (by kernel_rfl) (by rfl) (by rfl) (by rfl) (fun V5 hS => ?_) (fun V8 hS => ?_) (fun V9 hS => ?_)
      · have hS' := (SB.out _).1 hS
        obtain ⟨hb0, hn0, hB⟩ := hS'
        have c0_0 := hb0.cell 0
        go_simp
        with_reducible refine (of_any d _ HD.out).mono ?_
        rintro e w5 ⟨A5, n5, c5, rfl, hl, hb⟩
        refine ⟨_, rfl, ?_⟩
        obtain ⟨S_1, SB_1⟩ : ∃ S_1 : World → Prop, Go.RowKit.Hid (∀ x : World, S_1 x ↔ (Blk x w2.heap.size 42 #[.slice A4 n4 c4] ∧ NatL x A4 n4 c4 (W64 * hi + lo) ∧ NatL x A5 n5 c5 (d) ∧ Below w.heap.size w x)) := ⟨_, Lib.hid (fun _ => Iff.rfl)⟩
        have hst : Stays S_1 := fun W W' h hb => by obtain ⟨hb0, hn0, hn1, hB⟩ := (SB_1.out _).1 h; exact (SB_1.out _).2 ⟨hb0.st hb, hn0.below hb, hn1.below hb, hB.trans (hb.mono (Nat.le_trans SBL hB.size))⟩
        have hle : ∀ x, S_1 x → S x := fun x h => by obtain ⟨hb0, hn0, hn1, hB⟩ := (SB_1.out _).1 h; exact (SB.out _).2 ⟨hb0, hn0, hB⟩
        refine Moved.keep S_1 hst hle ((SB_1.out _).2 ⟨hb0.st hb, hn0.below hb, hl, hB.trans (hb.mono (Nat.le_trans SBL hB.size))⟩) ?_
        clear hst hle
        try simp only [Act.put, List.setIfInBounds_toArray, List.set_cons_zero, List.set_cons_succ]
        refine Way.move3 3 8 9 (by rfl) (by rfl) (by rfl) (by kernel_rfl) (by rfl) (by rfl) (by rfl) (fun V6 hS => ?_) (fun V8 hS => ?_) (fun V9 hS => ?_)
        · have hS' := (SB_1.out _).1 hS
          obtain ⟨hb0, hn0, hn1, hB⟩ := hS'
          have c0_0 := hb0.cell 0
          go_simp
          with_reducible refine (div_nat _ _ _ _ _ hn0.w hn1.w (Nat.le_trans (small128 HN.out) (by decide)) (Nat.le_trans (blen_le64 HD.out) (by decide)) HD0.out).mono ?_
          rintro e w6 ⟨A6, n6, c6, A7, n7, c7, rfl, hl, hl1, hb⟩
          refine ⟨_, rfl, ?_⟩
          obtain ⟨S_2, SB_2⟩ : ∃ S_2 : World → Prop, Go.RowKit.Hid (∀ x : World, S_2 x ↔ (Blk x w2.heap.size 42 #[.slice A4 n4 c4] ∧ NatL x A4 n4 c4 (W64 * hi + lo) ∧ NatL x A5 n5 c5 (d) ∧ NatL x A6 n6 c6 ((W64 * hi + lo) / d) ∧ NatL x A7 n7 c7 ((W64 * hi + lo) % d) ∧ Below w.heap.size w x)) := ⟨_, Lib.hid (fun _ => Iff.rfl)⟩
          have hst : Stays S_2 := fun W W' h hb => by obtain ⟨hb0, hn0, hn1, hn2, hn3, hB⟩ := (SB_2.out _).1 h; exact (SB_2.out _).2 ⟨hb0.st hb, hn0.below hb, hn1.below hb, hn2.below hb, hn3.below hb, hB.trans (hb.mono (Nat.le_trans SBL hB.size))⟩
          have hle : ∀ x, S_2 x → S_1 x := fun x h => by obtain ⟨hb0, hn0, hn1, hn2, hn3, hB⟩ := (SB_2.out _).1 h; exact (SB_1.out _).2 ⟨hb0, hn0, hn1, hB⟩
          refine Moved.keep S_2 hst hle ((SB_2.out _).2 ⟨hb0.st hb, hn0.below hb, hn1.below hb, hl, hl1, hB.trans (hb.mono (Nat.le_trans SBL hB.size))⟩) ?_
          clear hst hle
          try simp only [Act.put, List.setIfInBounds_toArray, List.set_cons_zero, List.set_cons_succ]
          first
            | (refine Way.no 4 (by rfl) (by kernel_rfl) (by rfl) ?_; simp only [Act.put, List.setIfInBounds_toArray, List.set_cons_zero, List.set_cons_succ])
            | (refine' Way.yes 4 (by rfl) (by kernel_rfl) (by rfl) (fun wS hS => ?_) ?_
               rotate_left
               · have hS' := (SB_2.out _).1 hS
                 obtain ⟨hb0, hn0, hn1, hn2, hn3, hB⟩ := hS'
                 have c0_0 := hb0.cell 0
                 go_simp
                 first
                   | exact ⟨rfl, Below.refl _ _⟩
               simp only [Act.put, List.setIfInBounds_toArray, List.set_cons_zero, List.set_cons_succ])
          first
            | (refine Way.no 5 (by rfl) (by kernel_rfl) (by rfl) ?_; simp only [Act.put, List.setIfInBounds_toArray, List.set_cons_zero, List.set_cons_succ])
            | (refine' Way.yes 5 (by rfl) (by kernel_rfl) (by rfl) (fun wS hS => ?_) ?_
               rotate_left
               · have hS' := (SB_2.out _).1 hS
                 obtain ⟨hb0, hn0, hn1, hn2, hn3, hB⟩ := hS'
                 have c0_0 := hb0.cell 0
                 go_simp
                 first
                   | exact ⟨rfl, Below.refl _ _⟩
               simp only [Act.put, List.setIfInBounds_toArray, List.set_cons_zero, List.set_cons_succ])
          first
            | (refine Way.no 6 (by rfl) (by kernel_rfl) (by rfl) ?_; simp only [Act.put, List.setIfInBounds_toArray, List.set_cons_zero, List.set_cons_succ])
            | (refine' Way.yes 6 (by rfl) (by kernel_rfl) (by rfl) (fun wS hS => ?_) ?_
               rotate_left
               · have hS' := (SB_2.out _).1 hS
                 obtain ⟨hb0, hn0, hn1, hn2, hn3, hB⟩ := hS'
                 have c0_0 := hb0.cell 0
                 go_simp
                 first
                   | exact ⟨rfl, Below.refl _ _⟩
               simp only [Act.put, List.setIfInBounds_toArray, List.set_cons_zero, List.set_cons_succ])
          first
            | (refine Way.no 7 (by rfl) (by kernel_rfl) (by rfl) ?_; simp only [Act.put, List.setIfInBounds_toArray, List.set_cons_zero, List.set_cons_succ])
            | (refine' Way.yes 7 (by rfl) (by kernel_rfl) (by rfl) (fun wS hS => ?_) ?_
               rotate_left
               · have hS' := (SB_2.out _).1 hS
                 obtain ⟨hb0, hn0, hn1, hn2, hn3, hB⟩ := hS'
                 have c0_0 := hb0.cell 0
                 go_simp
                 first
                   | exact ⟨rfl, Below.refl _ _⟩
               simp only [Act.put, List.setIfInBounds_toArray, List.set_cons_zero, List.set_cons_succ])
          refine Way.move2 8 9 (by rfl) (by rfl) (by kernel_rfl) (by rfl) (by rfl) (fun V8 hS => ?_) (fun V9 hS => ?_)
          · have hS' := (SB_2.out _).1 hS
            obtain ⟨hb0, hn0, hn1, hn2, hn3, hB⟩ := hS'
            have c0_0 := hb0.cell 0
            have lt_V8_0 := hb0.lt
            have leB_V8 := Nat.le_trans SBL hB.size
            go_simp
            obtain ⟨S_3, SB_3⟩ : ∃ S_3 : World → Prop, Go.RowKit.Hid (∀ x : World, S_3 x ↔ (Blk x w2.heap.size 42 #[.slice A4 n4 c4] ∧ (∃ u0, Blk x V8.heap.size 42 #[u0]) ∧ NatL x A4 n4 c4 (W64 * hi + lo) ∧ NatL x A5 n5 c5 (d) ∧ NatL x A6 n6 c6 ((W64 * hi + lo) / d) ∧ NatL x A7 n7 c7 ((W64 * hi + lo) % d) ∧ Below w.heap.size w x)) := ⟨_, Lib.hid (fun _ => Iff.rfl)⟩
            have hst : Stays S_3 := fun W W' h hb => by obtain ⟨hb0, ⟨u1_0, hb1⟩, hn0, hn1, hn2, hn3, hB⟩ := (SB_3.out _).1 h; exact (SB_3.out _).2 ⟨hb0.st hb, ⟨u1_0, hb1.st hb⟩, hn0.below hb, hn1.below hb, hn2.below hb, hn3.below hb, hB.trans (hb.mono (Nat.le_trans SBL hB.size))⟩
            have hle : ∀ x, S_3 x → S_2 x := fun x h => by obtain ⟨hb0, ⟨u1_0, hb1⟩, hn0, hn1, hn2, hn3, hB⟩ := (SB_3.out _).1 h; exact (SB_2.out _).2 ⟨hb0, hn0, hn1, hn2, hn3, hB⟩
            refine Moved.keep S_3 hst hle ((SB_3.out _).2 ⟨hb0.alloc _, ⟨_, Blk.new V8 _ _⟩, hn0.below (below_new _ _), hn1.below (below_new _ _), hn2.below (below_new _ _), hn3.below (below_new _ _), hB.alloc (Nat.le_trans SBL hB.size) _⟩) ?_
            clear hst hle
            try simp only [Act.put, List.setIfInBounds_toArray, List.set_cons_zero, List.set_cons_succ]
            refine Way.move 9 (by rfl) (by kernel_rfl) (by rfl) (fun V9 hS => ?_)
            have hS' := (SB_3.out _).1 hS
            obtain ⟨hb0, ⟨u1_0, hb1⟩, hn0, hn1, hn2, hn3, hB⟩ := hS'
            have c0_0 := hb0.cell 0
            have c1_0 := hb1.cell 0
            have lt_V9_0 := hb0.lt
            have lt_V9_1 := hb1.lt
            have leB_V9 := Nat.le_trans SBL hB.size
            go_simp
            obtain ⟨S_4, SB_4⟩ : ∃ S_4 : World → Prop, Go.RowKit.Hid (∀ x : World, S_4 x ↔ (Blk x w2.heap.size 42 #[.slice A4 n4 c4] ∧ (∃ u0, Blk x V8.heap.size 42 #[u0]) ∧ (∃ u0, Blk x V9.heap.size 42 #[u0]) ∧ NatL x A4 n4 c4 (W64 * hi + lo) ∧ NatL x A5 n5 c5 (d) ∧ NatL x A6 n6 c6 ((W64 * hi + lo) / d) ∧ NatL x A7 n7 c7 ((W64 * hi + lo) % d) ∧ Below w.heap.size w x)) := ⟨_, Lib.hid (fun _ => Iff.rfl)⟩
            have hst : Stays S_4 := fun W W' h hb => by obtain ⟨hb0, ⟨u1_0, hb1⟩, ⟨u2_0, hb2⟩, hn0, hn1, hn2, hn3, hB⟩ := (SB_4.out _).1 h; exact (SB_4.out _).2 ⟨hb0.st hb, ⟨u1_0, hb1.st hb⟩, ⟨u2_0, hb2.st hb⟩, hn0.below hb, hn1.below hb, hn2.below hb, hn3.below hb, hB.trans (hb.mono (Nat.le_trans SBL hB.size))⟩
            have hle : ∀ x, S_4 x → S_3 x := fun x h => by obtain ⟨hb0, ⟨u1_0, hb1⟩, ⟨u2_0, hb2⟩, hn0, hn1, hn2, hn3, hB⟩ := (SB_4.out _).1 h; exact (SB_3.out _).2 ⟨hb0, ⟨u1_0, hb1⟩, hn0, hn1, hn2, hn3, hB⟩
            refine Moved.keep S_4 hst hle ((SB_4.out _).2 ⟨hb0.alloc _, ⟨u1_0, hb1.alloc _⟩, ⟨_, Blk.new V9 _ _⟩, hn0.below (below_new _ _), hn1.below (below_new _ _), hn2.below (below_new _ _), hn3.below (below_new _ _), hB.alloc (Nat.le_trans SBL hB.size) _⟩) ?_
            clear hst hle
            try simp only [Act.put, List.setIfInBounds_toArray, List.set_cons_zero, List.set_cons_succ]
            refine Way.move 10 (by rfl) (by kernel_rfl) (by rfl) (fun wS hS => ?_)
            have hS' := (SB_4.out _).1 hS
            obtain ⟨hb0, ⟨u1_0, hb1⟩, ⟨u2_0, hb2⟩, hn0, hn1, hn2, hn3, hB⟩ := hS'
            have c0_0 := hb0.cell 0
            have c1_0 := hb1.cell 0
            have c2_0 := hb2.cell 0
            have f1_0 := hb1.frozen 0
            go_simp
            obtain ⟨S_5, SB_5⟩ : ∃ S_5 : World → Prop, Go.RowKit.Hid (∀ x : World, S_5 x ↔ (Blk x w2.heap.size 42 #[.slice A4 n4 c4] ∧ Blk x V8.heap.size 42 #[.slice A6 n6 c6] ∧ (∃ u0, Blk x V9.heap.size 42 #[u0]) ∧ NatL x A4 n4 c4 (W64 * hi + lo) ∧ NatL x A5 n5 c5 (d) ∧ NatL x A6 n6 c6 ((W64 * hi + lo) / d) ∧ NatL x A7 n7 c7 ((W64 * hi + lo) % d) ∧ Below w.heap.size w x)) := ⟨_, Lib.hid (fun _ => Iff.rfl)⟩
            have hst : Stays S_5 := fun W W' h hb => by obtain ⟨hb0, hb1, ⟨u2_0, hb2⟩, hn0, hn1, hn2, hn3, hB⟩ := (SB_5.out _).1 h; exact (SB_5.out _).2 ⟨hb0.st hb, hb1.st hb, ⟨u2_0, hb2.st hb⟩, hn0.below hb, hn1.below hb, hn2.below hb, hn3.below hb, hB.trans (hb.mono (Nat.le_trans SBL hB.size))⟩
            have hle : ∀ x, S_5 x → S_4 x := fun x h => by obtain ⟨hb0, hb1, ⟨u2_0, hb2⟩, hn0, hn1, hn2, hn3, hB⟩ := (SB_5.out _).1 h; exact (SB_4.out _).2 ⟨hb0, ⟨_, hb1⟩, ⟨_, hb2⟩, hn0, hn1, hn2, hn3, hB⟩
            refine Moved.keep S_5 hst hle ((SB_5.out _).2 ⟨(hb0.far (by first | (simp; done) | (simp; omega)) _), (hb1.set1 0 _), ⟨u2_0, (hb2.far (by first | (simp; done) | (simp; omega)) _)⟩, (hn0.set hb1 (by decide) _), (hn1.set hb1 (by decide) _), (hn2.set hb1 (by decide) _), (hn3.set hb1 (by decide) _), (hB.setCell (by first | (simp; done) | (simp; omega)) _)⟩) ?_
            clear hst hle
            try simp only [Act.put, List.setIfInBounds_toArray, List.set_cons_zero, List.set_cons_succ]
            refine Way.move 11 (by rfl) (by kernel_rfl) (by rfl) (fun wS hS => ?_)
            have hS' := (SB_5.out _).1 hS
            obtain ⟨hb0, hb1, ⟨u2_0, hb2⟩, hn0, hn1, hn2, hn3, hB⟩ := hS'
            have c0_0 := hb0.cell 0
            have c1_0 := hb1.cell 0
            have c2_0 := hb2.cell 0
            have f2_0 := hb2.frozen 0
            go_simp
            obtain ⟨S_6, SB_6⟩ : ∃ S_6 : World → Prop, Go.RowKit.Hid (∀ x : World, S_6 x ↔ (Blk x w2.heap.size 42 #[.slice A4 n4 c4] ∧ Blk x V8.heap.size 42 #[.slice A6 n6 c6] ∧ Blk x V9.heap.size 42 #[.slice A7 n7 c7] ∧ NatL x A4 n4 c4 (W64 * hi + lo) ∧ NatL x A5 n5 c5 (d) ∧ NatL x A6 n6 c6 ((W64 * hi + lo) / d) ∧ NatL x A7 n7 c7 ((W64 * hi + lo) % d) ∧ Below w.heap.size w x)) := ⟨_, Lib.hid (fun _ => Iff.rfl)⟩
            have hst : Stays S_6 := fun W W' h hb => by obtain ⟨hb0, hb1, hb2, hn0, hn1, hn2, hn3, hB⟩ := (SB_6.out _).1 h; exact (SB_6.out _).2 ⟨hb0.st hb, hb1.st hb, hb2.st hb, hn0.below hb, hn1.below hb, hn2.below hb, hn3.below hb, hB.trans (hb.mono (Nat.le_trans SBL hB.size))⟩
            have hle : ∀ x, S_6 x → S_5 x := fun x h => by obtain ⟨hb0, hb1, hb2, hn0, hn1, hn2, hn3, hB⟩ := (SB_6.out _).1 h; exact (SB_5.out _).2 ⟨hb0, hb1, ⟨_, hb2⟩, hn0, hn1, hn2, hn3, hB⟩
            refine Moved.keep S_6 hst hle ((SB_6.out _).2 ⟨(hb0.far (by first | (simp; done) | (simp; omega)) _), (hb1.far (by first | (simp; done) | (simp; omega)) _), (hb2.set1 0 _), (hn0.set hb2 (by decide) _), (hn1.set hb2 (by decide) _), (hn2.set hb2 (by decide) _), (hn3.set hb2 (by decide) _), (hB.setCell (by first | (simp; done) | (simp; omega)) _)⟩) ?_
            clear hst hle
            try simp only [Act.put, List.setIfInBounds_toArray, List.set_cons_zero, List.set_cons_succ]
            first
              | (refine Way.no 12 (by rfl) (by kernel_rfl) (by rfl) ?_; simp only [Act.put, List.setIfInBounds_toArray, List.set_cons_zero, List.set_cons_succ])
              | (refine' Way.yes 12 (by rfl) (by kernel_rfl) (by rfl) (fun wS hS => ?_) ?_
                 rotate_left
                 · have hS' := (SB_6.out _).1 hS
                   obtain ⟨hb0, hb1, hb2, hn0, hn1, hn2, hn3, hB⟩ := hS'
                   have c0_0 := hb0.cell 0
                   have c1_0 := hb1.cell 0
                   have c2_0 := hb2.cell 0
                   go_simp
                   first
                     | exact ⟨rfl, Below.refl _ _⟩
                 simp only [Act.put, List.setIfInBounds_toArray, List.set_cons_zero, List.set_cons_succ])
            refine Way.done (by kernel_rfl) (fun wE hS => ?_)
            have hS' := (SB_6.out _).1 hS
            obtain ⟨hb0, hb1, hb2, hn0, hn1, hn2, hn3, hB⟩ := hS'
            have c0_0 := hb0.cell 0
            have c1_0 := hb1.cell 0
            have c2_0 := hb2.cell 0
            clear hS
            go_wp2_with fail
            go_meet
            exact ⟨_, _, _, _, _, _, _, _, rfl, rfl, rfl, hb0, hb1, hb2, hn0, hn2, hn3, hB⟩
          · have hS' := (SB_2.out _).1 hS
            obtain ⟨hb0, hn0, hn1, hn2, hn3, hB⟩ := hS'
            have c0_0 := hb0.cell 0
            have lt_V9_0 := hb0.lt
            have leB_V9 := Nat.le_trans SBL hB.size
            go_simp
            obtain ⟨S_7, SB_7⟩ : ∃ S_7 : World → Prop, Go.RowKit.Hid (∀ x : World, S_7 x ↔ (Blk x w2.heap.size 42 #[.slice A4 n4 c4] ∧ (∃ u0, Blk x V9.heap.size 42 #[u0]) ∧ NatL x A4 n4 c4 (W64 * hi + lo) ∧ NatL x A5 n5 c5 (d) ∧ NatL x A6 n6 c6 ((W64 * hi + lo) / d) ∧ NatL x A7 n7 c7 ((W64 * hi + lo) % d) ∧ Below w.heap.size w x)) := ⟨_, Lib.hid (fun _ => Iff.rfl)⟩
            have hst : Stays S_7 := fun W W' h hb => by obtain ⟨hb0, ⟨u1_0, hb1⟩, hn0, hn1, hn2, hn3, hB⟩ := (SB_7.out _).1 h; exact (SB_7.out _).2 ⟨hb0.st hb, ⟨u1_0, hb1.st hb⟩, hn0.below hb, hn1.below hb, hn2.below hb, hn3.below hb, hB.trans (hb.mono (Nat.le_trans SBL hB.size))⟩
            have hle : ∀ x, S_7 x → S_2 x := fun x h => by obtain ⟨hb0, ⟨u1_0, hb1⟩, hn0, hn1, hn2, hn3, hB⟩ := (SB_7.out _).1 h; exact (SB_2.out _).2 ⟨hb0, hn0, hn1, hn2, hn3, hB⟩
            refine Moved.keep S_7 hst hle ((SB_7.out _).2 ⟨hb0.alloc _, ⟨_, Blk.new V9 _ _⟩, hn0.below (below_new _ _), hn1.below (below_new _ _), hn2.below (below_new _ _), hn3.below (below_new _ _), hB.alloc (Nat.le_trans SBL hB.size) _⟩) ?_
            clear hst hle
            try simp only [Act.put, List.setIfInBounds_toArray, List.set_cons_zero, List.set_cons_succ]
            refine Way.move 8 (by rfl) (by kernel_rfl) (by rfl) (fun V8 hS => ?_)
            have hS' := (SB_7.out _).1 hS
            obtain ⟨hb0, ⟨u1_0, hb1⟩, hn0, hn1, hn2, hn3, hB⟩ := hS'
            have c0_0 := hb0.cell 0
            have c1_0 := hb1.cell 0
            have lt_V8_0 := hb0.lt
            have lt_V8_1 := hb1.lt
            have leB_V8 := Nat.le_trans SBL hB.size
            go_simp
            obtain ⟨S_8, SB_8⟩ : ∃ S_8 : World → Prop, Go.RowKit.Hid (∀ x : World, S_8 x ↔ (Blk x w2.heap.size 42 #[.slice A4 n4 c4] ∧ (∃ u0, Blk x V9.heap.size 42 #[u0]) ∧ (∃ u0, Blk x V8.heap.size 42 #[u0]) ∧ NatL x A4 n4 c4 (W64 * hi + lo) ∧ NatL x A5 n5 c5 (d) ∧ NatL x A6 n6 c6 ((W64 * hi + lo) / d) ∧ NatL x A7 n7 c7 ((W64 * hi + lo) % d) ∧ Below w.heap.size w x)) := ⟨_, Lib.hid (fun _ => Iff.rfl)⟩
            have hst : Stays S_8 := fun W W' h hb => by obtain ⟨hb0, ⟨u1_0, hb1⟩, ⟨u2_0, hb2⟩, hn0, hn1, hn2, hn3, hB⟩ := (SB_8.out _).1 h; exact (SB_8.out _).2 ⟨hb0.st hb, ⟨u1_0, hb1.st hb⟩, ⟨u2_0, hb2.st hb⟩, hn0.below hb, hn1.below hb, hn2.below hb, hn3.below hb, hB.trans (hb.mono (Nat.le_trans SBL hB.size))⟩
            have hle : ∀ x, S_8 x → S_7 x := fun x h => by obtain ⟨hb0, ⟨u1_0, hb1⟩, ⟨u2_0, hb2⟩, hn0, hn1, hn2, hn3, hB⟩ := (SB_8.out _).1 h; exact (SB_7.out _).2 ⟨hb0, ⟨u1_0, hb1⟩, hn0, hn1, hn2, hn3, hB⟩
            refine Moved.keep S_8 hst hle ((SB_8.out _).2 ⟨hb0.alloc _, ⟨u1_0, hb1.alloc _⟩, ⟨_, Blk.new V8 _ _⟩, hn0.below (below_new _ _), hn1.below (below_new _ _), hn2.below (below_new _ _), hn3.below (below_new _ _), hB.alloc (Nat.le_trans SBL hB.size) _⟩) ?_
            clear hst hle
            try simp only [Act.put, List.setIfInBounds_toArray, List.set_cons_zero, List.set_cons_succ]
            refine Way.move 10 (by rfl) (by kernel_rfl) (by rfl) (fun wS hS => ?_)
            have hS' := (SB_8.out _).1 hS
            obtain ⟨hb0, ⟨u1_0, hb1⟩, ⟨u2_0, hb2⟩, hn0, hn1, hn2, hn3, hB⟩ := hS'
            have c0_0 := hb0.cell 0
            have c1_0 := hb1.cell 0
            have c2_0 := hb2.cell 0
            have f2_0 := hb2.frozen 0
            go_simp
            obtain ⟨S_9, SB_9⟩ : ∃ S_9 : World → Prop, Go.RowKit.Hid (∀ x : World, S_9 x ↔ (Blk x w2.heap.size 42 #[.slice A4 n4 c4] ∧ (∃ u0, Blk x V9.heap.size 42 #[u0]) ∧ Blk x V8.heap.size 42 #[.slice A6 n6 c6] ∧ NatL x A4 n4 c4 (W64 * hi + lo) ∧ NatL x A5 n5 c5 (d) ∧ NatL x A6 n6 c6 ((W64 * hi + lo) / d) ∧ NatL x A7 n7 c7 ((W64 * hi + lo) % d) ∧ Below w.heap.size w x)) := ⟨_, Lib.hid (fun _ => Iff.rfl)⟩
            have hst : Stays S_9 := fun W W' h hb => by obtain ⟨hb0, ⟨u1_0, hb1⟩, hb2, hn0, hn1, hn2, hn3, hB⟩ := (SB_9.out _).1 h; exact (SB_9.out _).2 ⟨hb0.st hb, ⟨u1_0, hb1.st hb⟩, hb2.st hb, hn0.below hb, hn1.below hb, hn2.below hb, hn3.below hb, hB.trans (hb.mono (Nat.le_trans SBL hB.size))⟩
            have hle : ∀ x, S_9 x → S_8 x := fun x h => by obtain ⟨hb0, ⟨u1_0, hb1⟩, hb2, hn0, hn1, hn2, hn3, hB⟩ := (SB_9.out _).1 h; exact (SB_8.out _).2 ⟨hb0, ⟨_, hb1⟩, ⟨_, hb2⟩, hn0, hn1, hn2, hn3, hB⟩
            refine Moved.keep S_9 hst hle ((SB_9.out _).2 ⟨(hb0.far (by first | (simp; done) | (simp; omega)) _), ⟨u1_0, (hb1.far (by first | (simp; done) | (simp; omega)) _)⟩, (hb2.set1 0 _), (hn0.set hb2 (by decide) _), (hn1.set hb2 (by decide) _), (hn2.set hb2 (by decide) _), (hn3.set hb2 (by decide) _), (hB.setCell (by first | (simp; done) | (simp; omega)) _)⟩) ?_
            clear hst hle
            try simp only [Act.put, List.setIfInBounds_toArray, List.set_cons_zero, List.set_cons_succ]
            refine Way.move 11 (by rfl) (by kernel_rfl) (by rfl) (fun wS hS => ?_)
            have hS' := (SB_9.out _).1 hS
            obtain ⟨hb0, ⟨u1_0, hb1⟩, hb2, hn0, hn1, hn2, hn3, hB⟩ := hS'
            have c0_0 := hb0.cell 0
            have c1_0 := hb1.cell 0
            have c2_0 := hb2.cell 0
            have f1_0 := hb1.frozen 0
            go_simp
            obtain ⟨S_10, SB_10⟩ : ∃ S_10 : World → Prop, Go.RowKit.Hid (∀ x : World, S_10 x ↔ (Blk x w2.heap.size 42 #[.slice A4 n4 c4] ∧ Blk x V9.heap.size 42 #[.slice A7 n7 c7] ∧ Blk x V8.heap.size 42 #[.slice A6 n6 c6] ∧ NatL x A4 n4 c4 (W64 * hi + lo) ∧ NatL x A5 n5 c5 (d) ∧ NatL x A6 n6 c6 ((W64 * hi + lo) / d) ∧ NatL x A7 n7 c7 ((W64 * hi + lo) % d) ∧ Below w.heap.size w x)) := ⟨_, Lib.hid (fun _ => Iff.rfl)⟩
            have hst : Stays S_10 := fun W W' h hb => by obtain ⟨hb0, hb1, hb2, hn0, hn1, hn2, hn3, hB⟩ := (SB_10.out _).1 h; exact (SB_10.out _).2 ⟨hb0.st hb, hb1.st hb, hb2.st hb, hn0.below hb, hn1.below hb, hn2.below hb, hn3.below hb, hB.trans (hb.mono (Nat.le_trans SBL hB.size))⟩
            have hle : ∀ x, S_10 x → S_9 x := fun x h => by obtain ⟨hb0, hb1, hb2, hn0, hn1, hn2, hn3, hB⟩ := (SB_10.out _).1 h; exact (SB_9.out _).2 ⟨hb0, ⟨_, hb1⟩, hb2, hn0, hn1, hn2, hn3, hB⟩
            refine Moved.keep S_10 hst hle ((SB_10.out _).2 ⟨(hb0.far (by first | (simp; done) | (simp; omega)) _), (hb1.set1 0 _), (hb2.far (by first | (simp; done) | (simp; omega)) _), (hn0.set hb1 (by decide) _), (hn1.set hb1 (by decide) _), (hn2.set hb1 (by decide) _), (hn3.set hb1 (by decide) _), (hB.setCell (by first | (simp; done) | (simp; omega)) _)⟩) ?_
            clear hst hle
            try simp only [Act.put, List.setIfInBounds_toArray, List.set_cons_zero, List.set_cons_succ]
            first
              | (refine Way.no 12 (by rfl) (by kernel_rfl) (by rfl) ?_; simp only [Act.put, List.setIfInBounds_toArray, List.set_cons_zero, List.set_cons_succ])
              | (refine' Way.yes 12 (by rfl) (by kernel_rfl) (by rfl) (fun wS hS => ?_) ?_
                 rotate_left
                 · have hS' := (SB_10.out _).1 hS
                   obtain ⟨hb0, hb1, hb2, hn0, hn1, hn2, hn3, hB⟩ := hS'
                   have c0_0 := hb0.cell 0
                   have c1_0 := hb1.cell 0
                   have c2_0 := hb2.cell 0
                   go_simp
                   first
                     | exact ⟨rfl, Below.refl _ _⟩
                 simp only [Act.put, List.setIfInBounds_toArray, List.set_cons_zero, List.set_cons_succ])
            refine Way.done (by kernel_rfl) (fun wE hS => ?_)
            have hS' := (SB_10.out _).1 hS
            obtain ⟨hb0, hb1, hb2, hn0, hn1, hn2, hn3, hB⟩ := hS'
            have c0_0 := hb0.cell 0
            have c1_0 := hb1.cell 0
            have c2_0 := hb2.cell 0
            clear hS
            go_wp2_with fail
            go_meet
            exact ⟨_, _, _, _, _, _, _, _, rfl, rfl, rfl, hb0, hb2, hb1, hn0, hn2, hn3, hB⟩
        · have hS' := (SB_1.out _).1 hS
          obtain ⟨hb0, hn0, hn1, hB⟩ := hS'
          have c0_0 := hb0.cell 0
          have lt_V8_0 := hb0.lt
          have leB_V8 := Nat.le_trans SBL hB.size
          go_simp
          obtain ⟨S_11, SB_11⟩ : ∃ S_11 : World → Prop, Go.RowKit.Hid (∀ x : World, S_11 x ↔ (Blk x w2.heap.size 42 #[.slice A4 n4 c4] ∧ (∃ u0, Blk x V8.heap.size 42 #[u0]) ∧ NatL x A4 n4 c4 (W64 * hi + lo) ∧ NatL x A5 n5 c5 (d) ∧ Below w.heap.size w x)) := ⟨_, Lib.hid (fun _ => Iff.rfl)⟩
          have hst : Stays S_11 := fun W W' h hb => by obtain ⟨hb0, ⟨u1_0, hb1⟩, hn0, hn1, hB⟩ := (SB_11.out _).1 h; exact (SB_11.out _).2 ⟨hb0.st hb, ⟨u1_0, hb1.st hb⟩, hn0.below hb, hn1.below hb, hB.trans (hb.mono (Nat.le_trans SBL hB.size))⟩
          have hle : ∀ x, S_11 x → S_1 x := fun x h => by obtain ⟨hb0, ⟨u1_0, hb1⟩, hn0, hn1, hB⟩ := (SB_11.out _).1 h; exact (SB_1.out _).2 ⟨hb0, hn0, hn1, hB⟩
          refine Moved.keep S_11 hst hle ((SB_11.out _).2 ⟨hb0.alloc _, ⟨_, Blk.new V8 _ _⟩, hn0.below (below_new _ _), hn1.below (below_new _ _), hB.alloc (Nat.le_trans SBL hB.size) _⟩) ?_
          clear hst hle
          try simp only [Act.put, List.setIfInBounds_toArray, List.set_cons_zero, List.set_cons_succ]
          refine Way.move2 3 9 (by rfl) (by rfl) (by kernel_rfl) (by rfl) (by rfl) (fun V6 hS => ?_) (fun V9 hS => ?_)
          · have hS' := (SB_11.out _).1 hS
            obtain ⟨hb0, ⟨u1_0, hb1⟩, hn0, hn1, hB⟩ := hS'
            have c0_0 := hb0.cell 0
            have c1_0 := hb1.cell 0
            go_simp
            with_reducible refine (div_nat _ _ _ _ _ hn0.w hn1.w (Nat.le_trans (small128 HN.out) (by decide)) (Nat.le_trans (blen_le64 HD.out) (by decide)) HD0.out).mono ?_
            rintro e w6 ⟨A6, n6, c6, A7, n7, c7, rfl, hl, hl1, hb⟩
            refine ⟨_, rfl, ?_⟩
            obtain ⟨S_12, SB_12⟩ : ∃ S_12 : World → Prop, Go.RowKit.Hid (∀ x : World, S_12 x ↔ (Blk x w2.heap.size 42 #[.slice A4 n4 c4] ∧ (∃ u0, Blk x V8.heap.size 42 #[u0]) ∧ NatL x A4 n4 c4 (W64 * hi + lo) ∧ NatL x A5 n5 c5 (d) ∧ NatL x A6 n6 c6 ((W64 * hi + lo) / d) ∧ NatL x A7 n7 c7 ((W64 * hi + lo) % d) ∧ Below w.heap.size w x)) := ⟨_, Lib.hid (fun _ => Iff.rfl)⟩
            have hst : Stays S_12 := fun W W' h hb => by obtain ⟨hb0, ⟨u1_0, hb1⟩, hn0, hn1, hn2, hn3, hB⟩ := (SB_12.out _).1 h; exact (SB_12.out _).2 ⟨hb0.st hb, ⟨u1_0, hb1.st hb⟩, hn0.below hb, hn1.below hb, hn2.below hb, hn3.below hb, hB.trans (hb.mono (Nat.le_trans SBL hB.size))⟩
            have hle : ∀ x, S_12 x → S_11 x := fun x h => by obtain ⟨hb0, ⟨u1_0, hb1⟩, hn0, hn1, hn2, hn3, hB⟩ := (SB_12.out _).1 h; exact (SB_11.out _).2 ⟨hb0, ⟨u1_0, hb1⟩, hn0, hn1, hB⟩
            refine Moved.keep S_12 hst hle ((SB_12.out _).2 ⟨hb0.st hb, ⟨u1_0, hb1.st hb⟩, hn0.below hb, hn1.below hb, hl, hl1, hB.trans (hb.mono (Nat.le_trans SBL hB.size))⟩) ?_
            clear hst hle
            try simp only [Act.put, List.setIfInBounds_toArray, List.set_cons_zero, List.set_cons_succ]
            first
              | (refine Way.no 4 (by rfl) (by kernel_rfl) (by rfl) ?_; simp only [Act.put, List.setIfInBounds_toArray, List.set_cons_zero, List.set_cons_succ])
              | (refine' Way.yes 4 (by rfl) (by kernel_rfl) (by rfl) (fun wS hS => ?_) ?_
                 rotate_left
                 · have hS' := (SB_12.out _).1 hS
                   obtain ⟨hb0, ⟨u1_0, hb1⟩, hn0, hn1, hn2, hn3, hB⟩ := hS'
                   have c0_0 := hb0.cell 0
                   have c1_0 := hb1.cell 0
                   go_simp
                   first
                     | exact ⟨rfl, Below.refl _ _⟩
                 simp only [Act.put, List.setIfInBounds_toArray, List.set_cons_zero, List.set_cons_succ])
            first
              | (refine Way.no 5 (by rfl) (by kernel_rfl) (by rfl) ?_; simp only [Act.put, List.setIfInBounds_toArray, List.set_cons_zero, List.set_cons_succ])
              | (refine' Way.yes 5 (by rfl) (by kernel_rfl) (by rfl) (fun wS hS => ?_) ?_
                 rotate_left
                 · have hS' := (SB_12.out _).1 hS
                   obtain ⟨hb0, ⟨u1_0, hb1⟩, hn0, hn1, hn2, hn3, hB⟩ := hS'
                   have c0_0 := hb0.cell 0
                   have c1_0 := hb1.cell 0
                   go_simp
                   first
                     | exact ⟨rfl, Below.refl _ _⟩
                 simp only [Act.put, List.setIfInBounds_toArray, List.set_cons_zero, List.set_cons_succ])
            first
              | (refine Way.no 6 (by rfl) (by kernel_rfl) (by rfl) ?_; simp only [Act.put, List.setIfInBounds_toArray, List.set_cons_zero, List.set_cons_succ])
              | (refine' Way.yes 6 (by rfl) (by kernel_rfl) (by rfl) (fun wS hS => ?_) ?_
                 rotate_left
                 · have hS' := (SB_12.out _).1 hS
                   obtain ⟨hb0, ⟨u1_0, hb1⟩, hn0, hn1, hn2, hn3, hB⟩ := hS'
                   have c0_0 := hb0.cell 0
                   have c1_0 := hb1.cell 0
                   go_simp
                   first
                     | exact ⟨rfl, Below.refl _ _⟩
                 simp only [Act.put, List.setIfInBounds_toArray, List.set_cons_zero, List.set_cons_succ])
            first
              | (refine Way.no 7 (by rfl) (by kernel_rfl) (by rfl) ?_; simp only [Act.put, List.setIfInBounds_toArray, List.set_cons_zero, List.set_cons_succ])
              | (refine' Way.yes 7 (by rfl) (by kernel_rfl) (by rfl) (fun wS hS => ?_) ?_
                 rotate_left
                 · have hS' := (SB_12.out _).1 hS
                   obtain ⟨hb0, ⟨u1_0, hb1⟩, hn0, hn1, hn2, hn3, hB⟩ := hS'
                   have c0_0 := hb0.cell 0
                   have c1_0 := hb1.cell 0
                   go_simp
                   first
                     | exact ⟨rfl, Below.refl _ _⟩
                 simp only [Act.put, List.setIfInBounds_toArray, List.set_cons_zero, List.set_cons_succ])
            refine Way.move 9 (by rfl) (by kernel_rfl) (by rfl) (fun V9 hS => ?_)
            have hS' := (SB_12.out _).1 hS
            obtain ⟨hb0, ⟨u1_0, hb1⟩, hn0, hn1, hn2, hn3, hB⟩ := hS'
            have c0_0 := hb0.cell 0
            have c1_0 := hb1.cell 0
            have lt_V9_0 := hb0.lt
            have lt_V9_1 := hb1.lt
            have leB_V9 := Nat.le_trans SBL hB.size
            go_simp
            obtain ⟨S_13, SB_13⟩ : ∃ S_13 : World → Prop, Go.RowKit.Hid (∀ x : World, S_13 x ↔ (Blk x w2.heap.size 42 #[.slice A4 n4 c4] ∧ (∃ u0, Blk x V8.heap.size 42 #[u0]) ∧ (∃ u0, Blk x V9.heap.size 42 #[u0]) ∧ NatL x A4 n4 c4 (W64 * hi + lo) ∧ NatL x A5 n5 c5 (d) ∧ NatL x A6 n6 c6 ((W64 * hi + lo) / d) ∧ NatL x A7 n7 c7 ((W64 * hi + lo) % d) ∧ Below w.heap.size w x)) := ⟨_, Lib.hid (fun _ => Iff.rfl)⟩
            have hst : Stays S_13 := fun W W' h hb => by obtain ⟨hb0, ⟨u1_0, hb1⟩, ⟨u2_0, hb2⟩, hn0, hn1, hn2, hn3, hB⟩ := (SB_13.out _).1 h; exact (SB_13.out _).2 ⟨hb0.st hb, ⟨u1_0, hb1.st hb⟩, ⟨u2_0, hb2.st hb⟩, hn0.below hb, hn1.below hb, hn2.below hb, hn3.below hb, hB.trans (hb.mono (Nat.le_trans SBL hB.size))⟩
            have hle : ∀ x, S_13 x → S_12 x := fun x h => by obtain ⟨hb0, ⟨u1_0, hb1⟩, ⟨u2_0, hb2⟩, hn0, hn1, hn2, hn3, hB⟩ := (SB_13.out _).1 h; exact (SB_12.out _).2 ⟨hb0, ⟨u1_0, hb1⟩, hn0, hn1, hn2, hn3, hB⟩
            refine Moved.keep S_13 hst hle ((SB_13.out _).2 ⟨hb0.alloc _, ⟨u1_0, hb1.alloc _⟩, ⟨_, Blk.new V9 _ _⟩, hn0.below (below_new _ _), hn1.below (below_new _ _), hn2.below (below_new _ _), hn3.below (below_new _ _), hB.alloc (Nat.le_trans SBL hB.size) _⟩) ?_
            clear hst hle
            try simp only [Act.put, List.setIfInBounds_toArray, List.set_cons_zero, List.set_cons_succ]
            refine Way.move 10 (by rfl) (by kernel_rfl) (by rfl) (fun wS hS => ?_)
            have hS' := (SB_13.out _).1 hS
            obtain ⟨hb0, ⟨u1_0, hb1⟩, ⟨u2_0, hb2⟩, hn0, hn1, hn2, hn3, hB⟩ := hS'
            have c0_0 := hb0.cell 0
            have c1_0 := hb1.cell 0
            have c2_0 := hb2.cell 0
            have f1_0 := hb1.frozen 0
            go_simp
            obtain ⟨S_14, SB_14⟩ : ∃ S_14 : World → Prop, Go.RowKit.Hid (∀ x : World, S_14 x ↔ (Blk x w2.heap.size 42 #[.slice A4 n4 c4] ∧ Blk x V8.heap.size 42 #[.slice A6 n6 c6] ∧ (∃ u0, Blk x V9.heap.size 42 #[u0]) ∧ NatL x A4 n4 c4 (W64 * hi + lo) ∧ NatL x A5 n5 c5 (d) ∧ NatL x A6 n6 c6 ((W64 * hi + lo) / d) ∧ NatL x A7 n7 c7 ((W64 * hi + lo) % d) ∧ Below w.heap.size w x)) := ⟨_, Lib.hid (fun _ => Iff.rfl)⟩
            have hst : Stays S_14 := fun W W' h hb => by obtain ⟨hb0, hb1, ⟨u2_0, hb2⟩, hn0, hn1, hn2, hn3, hB⟩ := (SB_14.out _).1 h; exact (SB_14.out _).2 ⟨hb0.st hb, hb1.st hb, ⟨u2_0, hb2.st hb⟩, hn0.below hb, hn1.below hb, hn2.below hb, hn3.below hb, hB.trans (hb.mono (Nat.le_trans SBL hB.size))⟩
            have hle : ∀ x, S_14 x → S_13 x := fun x h => by obtain ⟨hb0, hb1, ⟨u2_0, hb2⟩, hn0, hn1, hn2, hn3, hB⟩ := (SB_14.out _).1 h; exact (SB_13.out _).2 ⟨hb0, ⟨_, hb1⟩, ⟨_, hb2⟩, hn0, hn1, hn2, hn3, hB⟩
            refine Moved.keep S_14 hst hle ((SB_14.out _).2 ⟨(hb0.far (by first | (simp; done) | (simp; omega)) _), (hb1.set1 0 _), ⟨u2_0, (hb2.far (by first | (simp; done) | (simp; omega)) _)⟩, (hn0.set hb1 (by decide) _), (hn1.set hb1 (by decide) _), (hn2.set hb1 (by decide) _), (hn3.set hb1 (by decide) _), (hB.setCell (by first | (simp; done) | (simp; omega)) _)⟩) ?_
            clear hst hle
            try simp only [Act.put, List.setIfInBounds_toArray, List.set_cons_zero, List.set_cons_succ]
            refine Way.move 11 (by rfl) (by kernel_rfl) (by rfl) (fun wS hS => ?_)
            have hS' := (SB_14.out _).1 hS
            obtain ⟨hb0, hb1, ⟨u2_0, hb2⟩, hn0, hn1, hn2, hn3, hB⟩ := hS'
            have c0_0 := hb0.cell 0
            have c1_0 := hb1.cell 0
            have c2_0 := hb2.cell 0
            have f2_0 := hb2.frozen 0
            go_simp
            obtain ⟨S_15, SB_15⟩ : ∃ S_15 : World → Prop, Go.RowKit.Hid (∀ x : World, S_15 x ↔ (Blk x w2.heap.size 42 #[.slice A4 n4 c4] ∧ Blk x V8.heap.size 42 #[.slice A6 n6 c6] ∧ Blk x V9.heap.size 42 #[.slice A7 n7 c7] ∧ NatL x A4 n4 c4 (W64 * hi + lo) ∧ NatL x A5 n5 c5 (d) ∧ NatL x A6 n6 c6 ((W64 * hi + lo) / d) ∧ NatL x A7 n7 c7 ((W64 * hi + lo) % d) ∧ Below w.heap.size w x)) := ⟨_, Lib.hid (fun _ => Iff.rfl)⟩
            have hst : Stays S_15 := fun W W' h hb => by obtain ⟨hb0, hb1, hb2, hn0, hn1, hn2, hn3, hB⟩ := (SB_15.out _).1 h; exact (SB_15.out _).2 ⟨hb0.st hb, hb1.st hb, hb2.st hb, hn0.below hb, hn1.below hb, hn2.below hb, hn3.below hb, hB.trans (hb.mono (Nat.le_trans SBL hB.size))⟩
            have hle : ∀ x, S_15 x → S_14 x := fun x h => by obtain ⟨hb0, hb1, hb2, hn0, hn1, hn2, hn3, hB⟩ := (SB_15.out _).1 h; exact (SB_14.out _).2 ⟨hb0, hb1, ⟨_, hb2⟩, hn0, hn1, hn2, hn3, hB⟩
            refine Moved.keep S_15 hst hle ((SB_15.out _).2 ⟨(hb0.far (by first | (simp; done) | (simp; omega)) _), (hb1.far (by first | (simp; done) | (simp; omega)) _), (hb2.set1 0 _), (hn0.set hb2 (by decide) _), (hn1.set hb2 (by decide) _), (hn2.set hb2 (by decide) _), (hn3.set hb2 (by decide) _), (hB.setCell (by first | (simp; done) | (simp; omega)) _)⟩) ?_
            clear hst hle
            try simp only [Act.put, List.setIfInBounds_toArray, List.set_cons_zero, List.set_cons_succ]
            first
              | (refine Way.no 12 (by rfl) (by kernel_rfl) (by rfl) ?_; simp only [Act.put, List.setIfInBounds_toArray, List.set_cons_zero, List.set_cons_succ])
              | (refine' Way.yes 12 (by rfl) (by kernel_rfl) (by rfl) (fun wS hS => ?_) ?_
                 rotate_left
                 · have hS' := (SB_15.out _).1 hS
                   obtain ⟨hb0, hb1, hb2, hn0, hn1, hn2, hn3, hB⟩ := hS'
                   have c0_0 := hb0.cell 0
                   have c1_0 := hb1.cell 0
                   have c2_0 := hb2.cell 0
                   go_simp
                   first
                     | exact ⟨rfl, Below.refl _ _⟩
                 simp only [Act.put, List.setIfInBounds_toArray, List.set_cons_zero, List.set_cons_succ])
            refine Way.done (by kernel_rfl) (fun wE hS => ?_)
            have hS' := (SB_15.out _).1 hS
            obtain ⟨hb0, hb1, hb2, hn0, hn1, hn2, hn3, hB⟩ := hS'
            have c0_0 := hb0.cell 0
            have c1_0 := hb1.cell 0
            have c2_0 := hb2.cell 0
            clear hS
            go_wp2_with fail
            go_meet
            exact ⟨_, _, _, _, _, _, _, _, rfl, rfl, rfl, hb0, hb1, hb2, hn0, hn2, hn3, hB⟩
          · have hS' := (SB_11.out _).1 hS
            obtain ⟨hb0, ⟨u1_0, hb1⟩, hn0, hn1, hB⟩ := hS'
            have c0_0 := hb0.cell 0
            have c1_0 := hb1.cell 0
            have lt_V9_0 := hb0.lt
            have lt_V9_1 := hb1.lt
            have leB_V9 := Nat.le_trans SBL hB.size
            go_simp
            obtain ⟨S_16, SB_16⟩ : ∃ S_16 : World → Prop, Go.RowKit.Hid (∀ x : World, S_16 x ↔ (Blk x w2.heap.size 42 #[.slice A4 n4 c4] ∧ (∃ u0, Blk x V8.heap.size 42 #[u0]) ∧ (∃ u0, Blk x V9.heap.size 42 #[u0]) ∧ NatL x A4 n4 c4 (W64 * hi + lo) ∧ NatL x A5 n5 c5 (d) ∧ Below w.heap.size w x)) := ⟨_, Lib.hid (fun _ => Iff.rfl)⟩
            have hst : Stays S_16 := fun W W' h hb => by obtain ⟨hb0, ⟨u1_0, hb1⟩, ⟨u2_0, hb2⟩, hn0, hn1, hB⟩ := (SB_16.out _).1 h; exact (SB_16.out _).2 ⟨hb0.st hb, ⟨u1_0, hb1.st hb⟩, ⟨u2_0, hb2.st hb⟩, hn0.below hb, hn1.below hb, hB.trans (hb.mono (Nat.le_trans SBL hB.size))⟩
            have hle : ∀ x, S_16 x → S_11 x := fun x h => by obtain ⟨hb0, ⟨u1_0, hb1⟩, ⟨u2_0, hb2⟩, hn0, hn1, hB⟩ := (SB_16.out _).1 h; exact (SB_11.out _).2 ⟨hb0, ⟨u1_0, hb1⟩, hn0, hn1, hB⟩
            refine Moved.keep S_16 hst hle ((SB_16.out _).2 ⟨hb0.alloc _, ⟨u1_0, hb1.alloc _⟩, ⟨_, Blk.new V9 _ _⟩, hn0.below (below_new _ _), hn1.below (below_new _ _), hB.alloc (Nat.le_trans SBL hB.size) _⟩) ?_
            clear hst hle
            try simp only [Act.put, List.setIfInBounds_toArray, List.set_cons_zero, List.set_cons_succ]
            refine Way.move 3 (by rfl) (by kernel_rfl) (by rfl) (fun V6 hS => ?_)
            have hS' := (SB_16.out _).1 hS
            obtain ⟨hb0, ⟨u1_0, hb1⟩, ⟨u2_0, hb2⟩, hn0, hn1, hB⟩ := hS'
            have c0_0 := hb0.cell 0
            have c1_0 := hb1.cell 0
            have c2_0 := hb2.cell 0
            go_simp
            with_reducible refine (div_nat _ _ _ _ _ hn0.w hn1.w (Nat.le_trans (small128 HN.out) (by decide)) (Nat.le_trans (blen_le64 HD.out) (by decide)) HD0.out).mono ?_
            rintro e w6 ⟨A6, n6, c6, A7, n7, c7, rfl, hl, hl1, hb⟩
            refine ⟨_, rfl, ?_⟩
            obtain ⟨S_17, SB_17⟩ : ∃ S_17 : World → Prop, Go.RowKit.Hid (∀ x : World, S_17 x ↔ (Blk x w2.heap.size 42 #[.slice A4 n4 c4] ∧ (∃ u0, Blk x V8.heap.size 42 #[u0]) ∧ (∃ u0, Blk x V9.heap.size 42 #[u0]) ∧ NatL x A4 n4 c4 (W64 * hi + lo) ∧ NatL x A5 n5 c5 (d) ∧ NatL x A6 n6 c6 ((W64 * hi + lo) / d) ∧ NatL x A7 n7 c7 ((W64 * hi + lo) % d) ∧ Below w.heap.size w x)) := ⟨_, Lib.hid (fun _ => Iff.rfl)⟩
            have hst : Stays S_17 := fun W W' h hb => by obtain ⟨hb0, ⟨u1_0, hb1⟩, ⟨u2_0, hb2⟩, hn0, hn1, hn2, hn3, hB⟩ := (SB_17.out _).1 h; exact (SB_17.out _).2 ⟨hb0.st hb, ⟨u1_0, hb1.st hb⟩, ⟨u2_0, hb2.st hb⟩, hn0.below hb, hn1.below hb, hn2.below hb, hn3.below hb, hB.trans (hb.mono (Nat.le_trans SBL hB.size))⟩
            have hle : ∀ x, S_17 x → S_16 x := fun x h => by obtain ⟨hb0, ⟨u1_0, hb1⟩, ⟨u2_0, hb2⟩, hn0, hn1, hn2, hn3, hB⟩ := (SB_17.out _).1 h; exact (SB_16.out _).2 ⟨hb0, ⟨u1_0, hb1⟩, ⟨u2_0, hb2⟩, hn0, hn1, hB⟩
            refine Moved.keep S_17 hst hle ((SB_17.out _).2 ⟨hb0.st hb, ⟨u1_0, hb1.st hb⟩, ⟨u2_0, hb2.st hb⟩, hn0.below hb, hn1.below hb, hl, hl1, hB.trans (hb.mono (Nat.le_trans SBL hB.size))⟩) ?_
            clear hst hle
            try simp only [Act.put, List.setIfInBounds_toArray, List.set_cons_zero, List.set_cons_succ]
            first
              | (refine Way.no 4 (by rfl) (by kernel_rfl) (by rfl) ?_; simp only [Act.put, List.setIfInBounds_toArray, List.set_cons_zero, List.set_cons_succ])
              | (refine' Way.yes 4 (by rfl) (by kernel_rfl) (by rfl) (fun wS hS => ?_) ?_
                 rotate_left
                 · have hS' := (SB_17.out _).1 hS
                   obtain ⟨hb0, ⟨u1_0, hb1⟩, ⟨u2_0, hb2⟩, hn0, hn1, hn2, hn3, hB⟩ := hS'
                   have c0_0 := hb0.cell 0
                   have c1_0 := hb1.cell 0
                   have c2_0 := hb2.cell 0
                   go_simp
                   first
                     | exact ⟨rfl, Below.refl _ _⟩
                 simp only [Act.put, List.setIfInBounds_toArray, List.set_cons_zero, List.set_cons_succ])
            first
              | (refine Way.no 5 (by rfl) (by kernel_rfl) (by rfl) ?_; simp only [Act.put, List.setIfInBounds_toArray, List.set_cons_zero, List.set_cons_succ])
              | (refine' Way.yes 5 (by rfl) (by kernel_rfl) (by rfl) (fun wS hS => ?_) ?_
                 rotate_left
                 · have hS' := (SB_17.out _).1 hS
                   obtain ⟨hb0, ⟨u1_0, hb1⟩, ⟨u2_0, hb2⟩, hn0, hn1, hn2, hn3, hB⟩ := hS'
                   have c0_0 := hb0.cell 0
                   have c1_0 := hb1.cell 0
                   have c2_0 := hb2.cell 0
                   go_simp
                   first
                     | exact ⟨rfl, Below.refl _ _⟩
                 simp only [Act.put, List.setIfInBounds_toArray, List.set_cons_zero, List.set_cons_succ])
            first
              | (refine Way.no 6 (by rfl) (by kernel_rfl) (by rfl) ?_; simp only [Act.put, List.setIfInBounds_toArray, List.set_cons_zero, List.set_cons_succ])
              | (refine' Way.yes 6 (by rfl) (by kernel_rfl) (by rfl) (fun wS hS => ?_) ?_
                 rotate_left
                 · have hS' := (SB_17.out _).1 hS
                   obtain ⟨hb0, ⟨u1_0, hb1⟩, ⟨u2_0, hb2⟩, hn0, hn1, hn2, hn3, hB⟩ := hS'
                   have c0_0 := hb0.cell 0
                   have c1_0 := hb1.cell 0
                   have c2_0 := hb2.cell 0
                   go_simp
                   first
                     | exact ⟨rfl, Below.refl _ _⟩
                 simp only [Act.put, List.setIfInBounds_toArray, List.set_cons_zero, List.set_cons_succ])
            first
              | (refine Way.no 7 (by rfl) (by kernel_rfl) (by rfl) ?_; simp only [Act.put, List.setIfInBounds_toArray, List.set_cons_zero, List.set_cons_succ])
              | (refine' Way.yes 7 (by rfl) (by kernel_rfl) (by rfl) (fun wS hS => ?_) ?_
                 rotate_left
                 · have hS' := (SB_17.out _).1 hS
                   obtain ⟨hb0, ⟨u1_0, hb1⟩, ⟨u2_0, hb2⟩, hn0, hn1, hn2, hn3, hB⟩ := hS'
                   have c0_0 := hb0.cell 0
                   have c1_0 := hb1.cell 0
                   have c2_0 := hb2.cell 0
                   go_simp
                   first
                     | exact ⟨rfl, Below.refl _ _⟩
                 simp only [Act.put, List.setIfInBounds_toArray, List.set_cons_zero, List.set_cons_succ])
            refine Way.move 10 (by rfl) (by kernel_rfl) (by rfl) (fun wS hS => ?_)
            have hS' := (SB_17.out _).1 hS
            obtain ⟨hb0, ⟨u1_0, hb1⟩, ⟨u2_0, hb2⟩, hn0, hn1, hn2, hn3, hB⟩ := hS'
            have c0_0 := hb0.cell 0
            have c1_0 := hb1.cell 0
            have c2_0 := hb2.cell 0
            have f1_0 := hb1.frozen 0
            go_simp
            obtain ⟨S_18, SB_18⟩ : ∃ S_18 : World → Prop, Go.RowKit.Hid (∀ x : World, S_18 x ↔ (Blk x w2.heap.size 42 #[.slice A4 n4 c4] ∧ Blk x V8.heap.size 42 #[.slice A6 n6 c6] ∧ (∃ u0, Blk x V9.heap.size 42 #[u0]) ∧ NatL x A4 n4 c4 (W64 * hi + lo) ∧ NatL x A5 n5 c5 (d) ∧ NatL x A6 n6 c6 ((W64 * hi + lo) / d) ∧ NatL x A7 n7 c7 ((W64 * hi + lo) % d) ∧ Below w.heap.size w x)) := ⟨_, Lib.hid (fun _ => Iff.rfl)⟩
            have hst : Stays S_18 := fun W W' h hb => by obtain ⟨hb0, hb1, ⟨u2_0, hb2⟩, hn0, hn1, hn2, hn3, hB⟩ := (SB_18.out _).1 h; exact (SB_18.out _).2 ⟨hb0.st hb, hb1.st hb, ⟨u2_0, hb2.st hb⟩, hn0.below hb, hn1.below hb, hn2.below hb, hn3.below hb, hB.trans (hb.mono (Nat.le_trans SBL hB.size))⟩
            have hle : ∀ x, S_18 x → S_17 x := fun x h => by obtain ⟨hb0, hb1, ⟨u2_0, hb2⟩, hn0, hn1, hn2, hn3, hB⟩ := (SB_18.out _).1 h; exact (SB_17.out _).2 ⟨hb0, ⟨_, hb1⟩, ⟨_, hb2⟩, hn0, hn1, hn2, hn3, hB⟩
            refine Moved.keep S_18 hst hle ((SB_18.out _).2 ⟨(hb0.far (by first | (simp; done) | (simp; omega)) _), (hb1.set1 0 _), ⟨u2_0, (hb2.far (by first | (simp; done) | (simp; omega)) _)⟩, (hn0.set hb1 (by decide) _), (hn1.set hb1 (by decide) _), (hn2.set hb1 (by decide) _), (hn3.set hb1 (by decide) _), (hB.setCell (by first | (simp; done) | (simp; omega)) _)⟩) ?_
            clear hst hle
            try simp only [Act.put, List.setIfInBounds_toArray, List.set_cons_zero, List.set_cons_succ]
            refine Way.move 11 (by rfl) (by kernel_rfl) (by rfl) (fun wS hS => ?_)
            have hS' := (SB_18.out _).1 hS
            obtain ⟨hb0, hb1, ⟨u2_0, hb2⟩, hn0, hn1, hn2, hn3, hB⟩ := hS'
            have c0_0 := hb0.cell 0
            have c1_0 := hb1.cell 0
            have c2_0 := hb2.cell 0
            have f2_0 := hb2.frozen 0
            go_simp
            obtain ⟨S_19, SB_19⟩ : ∃ S_19 : World → Prop, Go.RowKit.Hid (∀ x : World, S_19 x ↔ (Blk x w2.heap.size 42 #[.slice A4 n4 c4] ∧ Blk x V8.heap.size 42 #[.slice A6 n6 c6] ∧ Blk x V9.heap.size 42 #[.slice A7 n7 c7] ∧ NatL x A4 n4 c4 (W64 * hi + lo) ∧ NatL x A5 n5 c5 (d) ∧ NatL x A6 n6 c6 ((W64 * hi + lo) / d) ∧ NatL x A7 n7 c7 ((W64 * hi + lo) % d) ∧ Below w.heap.size w x)) := ⟨_, Lib.hid (fun _ => Iff.rfl)⟩
            have hst : Stays S_19 := fun W W' h hb => by obtain ⟨hb0, hb1, hb2, hn0, hn1, hn2, hn3, hB⟩ := (SB_19.out _).1 h; exact (SB_19.out _).2 ⟨hb0.st hb, hb1.st hb, hb2.st hb, hn0.below hb, hn1.below hb, hn2.below hb, hn3.below hb, hB.trans (hb.mono (Nat.le_trans SBL hB.size))⟩
            have hle : ∀ x, S_19 x → S_18 x := fun x h => by obtain ⟨hb0, hb1, hb2, hn0, hn1, hn2, hn3, hB⟩ := (SB_19.out _).1 h; exact (SB_18.out _).2 ⟨hb0, hb1, ⟨_, hb2⟩, hn0, hn1, hn2, hn3, hB⟩
            refine Moved.keep S_19 hst hle ((SB_19.out _).2 ⟨(hb0.far (by first | (simp; done) | (simp; omega)) _), (hb1.far (by first | (simp; done) | (simp; omega)) _), (hb2.set1 0 _), (hn0.set hb2 (by decide) _), (hn1.set hb2 (by decide) _), (hn2.set hb2 (by decide) _), (hn3.set hb2 (by decide) _), (hB.setCell (by first | (simp; done) | (simp; omega)) _)⟩) ?_
            clear hst hle
            try simp only [Act.put, List.setIfInBounds_toArray, List.set_cons_zero, List.set_cons_succ]
            first
              | (refine Way.no 12 (by rfl) (by kernel_rfl) (by rfl) ?_; simp only [Act.put, List.setIfInBounds_toArray, List.set_cons_zero, List.set_cons_succ])
              | (refine' Way.yes 12 (by rfl) (by kernel_rfl) (by rfl) (fun wS hS => ?_) ?_
                 rotate_left
                 · have hS' := (SB_19.out _).1 hS
                   obtain ⟨hb0, hb1, hb2, hn0, hn1, hn2, hn3, hB⟩ := hS'
                   have c0_0 := hb0.cell 0
                   have c1_0 := hb1.cell 0
                   have c2_0 := hb2.cell 0
                   go_simp
                   first
                     | exact ⟨rfl, Below.refl _ _⟩
                 simp only [Act.put, List.setIfInBounds_toArray, List.set_cons_zero, List.set_cons_succ])
            refine Way.done (by kernel_rfl) (fun wE hS => ?_)
            have hS' := (SB_19.out _).1 hS
            obtain ⟨hb0, hb1, hb2, hn0, hn1, hn2, hn3, hB⟩ := hS'
            have c0_0 := hb0.cell 0
            have c1_0 := hb1.cell 0
            have c2_0 := hb2.cell 0
            clear hS
            go_wp2_with fail
            go_meet
            exact ⟨_, _, _, _, _, _, _, _, rfl, rfl, rfl, hb0, hb1, hb2, hn0, hn2, hn3, hB⟩
        · have hS' := (SB_1.out _).1 hS
          obtain ⟨hb0, hn0, hn1, hB⟩ := hS'
          have c0_0 := hb0.cell 0
          have lt_V9_0 := hb0.lt
          have leB_V9 := Nat.le_trans SBL hB.size
          go_simp
          obtain ⟨S_20, SB_20⟩ : ∃ S_20 : World → Prop, Go.RowKit.Hid (∀ x : World, S_20 x ↔ (Blk x w2.heap.size 42 #[.slice A4 n4 c4] ∧ (∃ u0, Blk x V9.heap.size 42 #[u0]) ∧ NatL x A4 n4 c4 (W64 * hi + lo) ∧ NatL x A5 n5 c5 (d) ∧ Below w.heap.size w x)) := ⟨_, Lib.hid (fun _ => Iff.rfl)⟩
          have hst : Stays S_20 := fun W W' h hb => by obtain ⟨hb0, ⟨u1_0, hb1⟩, hn0, hn1, hB⟩ := (SB_20.out _).1 h; exact (SB_20.out _).2 ⟨hb0.st hb, ⟨u1_0, hb1.st hb⟩, hn0.below hb, hn1.below hb, hB.trans (hb.mono (Nat.le_trans SBL hB.size))⟩
          have hle : ∀ x, S_20 x → S_1 x := fun x h => by obtain ⟨hb0, ⟨u1_0, hb1⟩, hn0, hn1, hB⟩ := (SB_20.out _).1 h; exact (SB_1.out _).2 ⟨hb0, hn0, hn1, hB⟩
          refine Moved.keep S_20 hst hle ((SB_20.out _).2 ⟨hb0.alloc _, ⟨_, Blk.new V9 _ _⟩, hn0.below (below_new _ _), hn1.below (below_new _ _), hB.alloc (Nat.le_trans SBL hB.size) _⟩) ?_
          clear hst hle
          try simp only [Act.put, List.setIfInBounds_toArray, List.set_cons_zero, List.set_cons_succ]
          refine Way.move2 3 8 (by rfl) (by rfl) (by kernel_rfl) (by rfl) (by rfl) (fun V6 hS => ?_) (fun V8 hS => ?_)
          · have hS' := (SB_20.out _).1 hS
            obtain ⟨hb0, ⟨u1_0, hb1⟩, hn0, hn1, hB⟩ := hS'
            have c0_0 := hb0.cell 0
            have c1_0 := hb1.cell 0
            go_simp
            with_reducible refine (div_nat _ _ _ _ _ hn0.w hn1.w (Nat.le_trans (small128 HN.out) (by decide)) (Nat.le_trans (blen_le64 HD.out) (by decide)) HD0.out).mono ?_
            rintro e w6 ⟨A6, n6, c6, A7, n7, c7, rfl, hl, hl1, hb⟩
            refine ⟨_, rfl, ?_⟩
            obtain ⟨S_21, SB_21⟩ : ∃ S_21 : World → Prop, Go.RowKit.Hid (∀ x : World, S_21 x ↔ (Blk x w2.heap.size 42 #[.slice A4 n4 c4] ∧ (∃ u0, Blk x V9.heap.size 42 #[u0]) ∧ NatL x A4 n4 c4 (W64 * hi + lo) ∧ NatL x A5 n5 c5 (d) ∧ NatL x A6 n6 c6 ((W64 * hi + lo) / d) ∧ NatL x A7 n7 c7 ((W64 * hi + lo) % d) ∧ Below w.heap.size w x)) := ⟨_, Lib.hid (fun _ => Iff.rfl)⟩
            have hst : Stays S_21 := fun W W' h hb => by obtain ⟨hb0, ⟨u1_0, hb1⟩, hn0, hn1, hn2, hn3, hB⟩ := (SB_21.out _).1 h; exact (SB_21.out _).2 ⟨hb0.st hb, ⟨u1_0, hb1.st hb⟩, hn0.below hb, hn1.below hb, hn2.below hb, hn3.below hb, hB.trans (hb.mono (Nat.le_trans SBL hB.size))⟩
            have hle : ∀ x, S_21 x → S_20 x := fun x h => by obtain ⟨hb0, ⟨u1_0, hb1⟩, hn0, hn1, hn2, hn3, hB⟩ := (SB_21.out _).1 h; exact (SB_20.out _).2 ⟨hb0, ⟨u1_0, hb1⟩, hn0, hn1, hB⟩
            refine Moved.keep S_21 hst hle ((SB_21.out _).2 ⟨hb0.st hb, ⟨u1_0, hb1.st hb⟩, hn0.below hb, hn1.below hb, hl, hl1, hB.trans (hb.mono (Nat.le_trans SBL hB.size))⟩) ?_
            clear hst hle
            try simp only [Act.put, List.setIfInBounds_toArray, List.set_cons_zero, List.set_cons_succ]
            first
              | (refine Way.no 4 (by rfl) (by kernel_rfl) (by rfl) ?_; simp only [Act.put, List.setIfInBounds_toArray, List.set_cons_zero, List.set_cons_succ])
              | (refine' Way.yes 4 (by rfl) (by kernel_rfl) (by rfl) (fun wS hS => ?_) ?_
                 rotate_left
                 · have hS' := (SB_21.out _).1 hS
                   obtain ⟨hb0, ⟨u1_0, hb1⟩, hn0, hn1, hn2, hn3, hB⟩ := hS'
                   have c0_0 := hb0.cell 0
                   have c1_0 := hb1.cell 0
                   go_simp
                   first
                     | exact ⟨rfl, Below.refl _ _⟩
                 simp only [Act.put, List.setIfInBounds_toArray, List.set_cons_zero, List.set_cons_succ])
            first
              | (refine Way.no 5 (by rfl) (by kernel_rfl) (by rfl) ?_; simp only [Act.put, List.setIfInBounds_toArray, List.set_cons_zero, List.set_cons_succ])
              | (refine' Way.yes 5 (by rfl) (by kernel_rfl) (by rfl) (fun wS hS => ?_) ?_
                 rotate_left
                 · have hS' := (SB_21.out _).1 hS
                   obtain ⟨hb0, ⟨u1_0, hb1⟩, hn0, hn1, hn2, hn3, hB⟩ := hS'
                   have c0_0 := hb0.cell 0
                   have c1_0 := hb1.cell 0
                   go_simp
                   first
                     | exact ⟨rfl, Below.refl _ _⟩
                 simp only [Act.put, List.setIfInBounds_toArray, List.set_cons_zero, List.set_cons_succ])
            first
              | (refine Way.no 6 (by rfl) (by kernel_rfl) (by rfl) ?_; simp only [Act.put, List.setIfInBounds_toArray, List.set_cons_zero, List.set_cons_succ])
              | (refine' Way.yes 6 (by rfl) (by kernel_rfl) (by rfl) (fun wS hS => ?_) ?_
                 rotate_left
                 · have hS' := (SB_21.out _).1 hS
                   obtain ⟨hb0, ⟨u1_0, hb1⟩, hn0, hn1, hn2, hn3, hB⟩ := hS'
                   have c0_0 := hb0.cell 0
                   have c1_0 := hb1.cell 0
                   go_simp
                   first
                     | exact ⟨rfl, Below.refl _ _⟩
                 simp only [Act.put, List.setIfInBounds_toArray, List.set_cons_zero, List.set_cons_succ])
            first
              | (refine Way.no 7 (by rfl) (by kernel_rfl) (by rfl) ?_; simp only [Act.put, List.setIfInBounds_toArray, List.set_cons_zero, List.set_cons_succ])
              | (refine' Way.yes 7 (by rfl) (by kernel_rfl) (by rfl) (fun wS hS => ?_) ?_
                 rotate_left
                 · have hS' := (SB_21.out _).1 hS
                   obtain ⟨hb0, ⟨u1_0, hb1⟩, hn0, hn1, hn2, hn3, hB⟩ := hS'
                   have c0_0 := hb0.cell 0
                   have c1_0 := hb1.cell 0
                   go_simp
                   first
                     | exact ⟨rfl, Below.refl _ _⟩
                 simp only [Act.put, List.setIfInBounds_toArray, List.set_cons_zero, List.set_cons_succ])
            refine Way.move 8 (by rfl) (by kernel_rfl) (by rfl) (fun V8 hS => ?_)
            have hS' := (SB_21.out _).1 hS
            obtain ⟨hb0, ⟨u1_0, hb1⟩, hn0, hn1, hn2, hn3, hB⟩ := hS'
            have c0_0 := hb0.cell 0
            have c1_0 := hb1.cell 0
            have lt_V8_0 := hb0.lt
            have lt_V8_1 := hb1.lt
            have leB_V8 := Nat.le_trans SBL hB.size
            go_simp
            obtain ⟨S_22, SB_22⟩ : ∃ S_22 : World → Prop, Go.RowKit.Hid (∀ x : World, S_22 x ↔ (Blk x w2.heap.size 42 #[.slice A4 n4 c4] ∧ (∃ u0, Blk x V9.heap.size 42 #[u0]) ∧ (∃ u0, Blk x V8.heap.size 42 #[u0]) ∧ NatL x A4 n4 c4 (W64 * hi + lo) ∧ NatL x A5 n5 c5 (d) ∧ NatL x A6 n6 c6 ((W64 * hi + lo) / d) ∧ NatL x A7 n7 c7 ((W64 * hi + lo) % d) ∧ Below w.heap.size w x)) := ⟨_, Lib.hid (fun _ => Iff.rfl)⟩
            have hst : Stays S_22 := fun W W' h hb => by obtain ⟨hb0, ⟨u1_0, hb1⟩, ⟨u2_0, hb2⟩, hn0, hn1, hn2, hn3, hB⟩ := (SB_22.out _).1 h; exact (SB_22.out _).2 ⟨hb0.st hb, ⟨u1_0, hb1.st hb⟩, ⟨u2_0, hb2.st hb⟩, hn0.below hb, hn1.below hb, hn2.below hb, hn3.below hb, hB.trans (hb.mono (Nat.le_trans SBL hB.size))⟩
            have hle : ∀ x, S_22 x → S_21 x := fun x h => by obtain ⟨hb0, ⟨u1_0, hb1⟩, ⟨u2_0, hb2⟩, hn0, hn1, hn2, hn3, hB⟩ := (SB_22.out _).1 h; exact (SB_21.out _).2 ⟨hb0, ⟨u1_0, hb1⟩, hn0, hn1, hn2, hn3, hB⟩
            refine Moved.keep S_22 hst hle ((SB_22.out _).2 ⟨hb0.alloc _, ⟨u1_0, hb1.alloc _⟩, ⟨_, Blk.new V8 _ _⟩, hn0.below (below_new _ _), hn1.below (below_new _ _), hn2.below (below_new _ _), hn3.below (below_new _ _), hB.alloc (Nat.le_trans SBL hB.size) _⟩) ?_
            clear hst hle
            try simp only [Act.put, List.setIfInBounds_toArray, List.set_cons_zero, List.set_cons_succ]
            refine Way.move 10 (by rfl) (by kernel_rfl) (by rfl) (fun wS hS => ?_)
            have hS' := (SB_22.out _).1 hS
            obtain ⟨hb0, ⟨u1_0, hb1⟩, ⟨u2_0, hb2⟩, hn0, hn1, hn2, hn3, hB⟩ := hS'
            have c0_0 := hb0.cell 0
            have c1_0 := hb1.cell 0
            have c2_0 := hb2.cell 0
            have f2_0 := hb2.frozen 0
            go_simp
            obtain ⟨S_23, SB_23⟩ : ∃ S_23 : World → Prop, Go.RowKit.Hid (∀ x : World, S_23 x ↔ (Blk x w2.heap.size 42 #[.slice A4 n4 c4] ∧ (∃ u0, Blk x V9.heap.size 42 #[u0]) ∧ Blk x V8.heap.size 42 #[.slice A6 n6 c6] ∧ NatL x A4 n4 c4 (W64 * hi + lo) ∧ NatL x A5 n5 c5 (d) ∧ NatL x A6 n6 c6 ((W64 * hi + lo) / d) ∧ NatL x A7 n7 c7 ((W64 * hi + lo) % d) ∧ Below w.heap.size w x)) := ⟨_, Lib.hid (fun _ => Iff.rfl)⟩
            have hst : Stays S_23 := fun W W' h hb => by obtain ⟨hb0, ⟨u1_0, hb1⟩, hb2, hn0, hn1, hn2, hn3, hB⟩ := (SB_23.out _).1 h; exact (SB_23.out _).2 ⟨hb0.st hb, ⟨u1_0, hb1.st hb⟩, hb2.st hb, hn0.below hb, hn1.below hb, hn2.below hb, hn3.below hb, hB.trans (hb.mono (Nat.le_trans SBL hB.size))⟩
            have hle : ∀ x, S_23 x → S_22 x := fun x h => by obtain ⟨hb0, ⟨u1_0, hb1⟩, hb2, hn0, hn1, hn2, hn3, hB⟩ := (SB_23.out _).1 h; exact (SB_22.out _).2 ⟨hb0, ⟨_, hb1⟩, ⟨_, hb2⟩, hn0, hn1, hn2, hn3, hB⟩
            refine Moved.keep S_23 hst hle ((SB_23.out _).2 ⟨(hb0.far (by first | (simp; done) | (simp; omega)) _), ⟨u1_0, (hb1.far (by first | (simp; done) | (simp; omega)) _)⟩, (hb2.set1 0 _), (hn0.set hb2 (by decide) _), (hn1.set hb2 (by decide) _), (hn2.set hb2 (by decide) _), (hn3.set hb2 (by decide) _), (hB.setCell (by first | (simp; done) | (simp; omega)) _)⟩) ?_
            clear hst hle
            try simp only [Act.put, List.setIfInBounds_toArray, List.set_cons_zero, List.set_cons_succ]
            refine Way.move 11 (by rfl) (by kernel_rfl) (by rfl) (fun wS hS => ?_)
            have hS' := (SB_23.out _).1 hS
            obtain ⟨hb0, ⟨u1_0, hb1⟩, hb2, hn0, hn1, hn2, hn3, hB⟩ := hS'
            have c0_0 := hb0.cell 0
            have c1_0 := hb1.cell 0
            have c2_0 := hb2.cell 0
            have f1_0 := hb1.frozen 0
            go_simp
            obtain ⟨S_24, SB_24⟩ : ∃ S_24 : World → Prop, Go.RowKit.Hid (∀ x : World, S_24 x ↔ (Blk x w2.heap.size 42 #[.slice A4 n4 c4] ∧ Blk x V9.heap.size 42 #[.slice A7 n7 c7] ∧ Blk x V8.heap.size 42 #[.slice A6 n6 c6] ∧ NatL x A4 n4 c4 (W64 * hi + lo) ∧ NatL x A5 n5 c5 (d) ∧ NatL x A6 n6 c6 ((W64 * hi + lo) / d) ∧ NatL x A7 n7 c7 ((W64 * hi + lo) % d) ∧ Below w.heap.size w x)) := ⟨_, Lib.hid (fun _ => Iff.rfl)⟩
            have hst : Stays S_24 := fun W W' h hb => by obtain ⟨hb0, hb1, hb2, hn0, hn1, hn2, hn3, hB⟩ := (SB_24.out _).1 h; exact (SB_24.out _).2 ⟨hb0.st hb, hb1.st hb, hb2.st hb, hn0.below hb, hn1.below hb, hn2.below hb, hn3.below hb, hB.trans (hb.mono (Nat.le_trans SBL hB.size))⟩
            have hle : ∀ x, S_24 x → S_23 x := fun x h => by obtain ⟨hb0, hb1, hb2, hn0, hn1, hn2, hn3, hB⟩ := (SB_24.out _).1 h; exact (SB_23.out _).2 ⟨hb0, ⟨_, hb1⟩, hb2, hn0, hn1, hn2, hn3, hB⟩
            refine Moved.keep S_24 hst hle ((SB_24.out _).2 ⟨(hb0.far (by first | (simp; done) | (simp; omega)) _), (hb1.set1 0 _), (hb2.far (by first | (simp; done) | (simp; omega)) _), (hn0.set hb1 (by decide) _), (hn1.set hb1 (by decide) _), (hn2.set hb1 (by decide) _), (hn3.set hb1 (by decide) _), (hB.setCell (by first | (simp; done) | (simp; omega)) _)⟩) ?_
            clear hst hle
            try simp only [Act.put, List.setIfInBounds_toArray, List.set_cons_zero, List.set_cons_succ]
            first
              | (refine Way.no 12 (by rfl) (by kernel_rfl) (by rfl) ?_; simp only [Act.put, List.setIfInBounds_toArray, List.set_cons_zero, List.set_cons_succ])
              | (refine' Way.yes 12 (by rfl) (by kernel_rfl) (by rfl) (fun wS hS => ?_) ?_
                 rotate_left
                 · have hS' := (SB_24.out _).1 hS
                   obtain ⟨hb0, hb1, hb2, hn0, hn1, hn2, hn3, hB⟩ := hS'
                   have c0_0 := hb0.cell 0
                   have c1_0 := hb1.cell 0
                   have c2_0 := hb2.cell 0
                   go_simp
                   first
                     | exact ⟨rfl, Below.refl _ _⟩
                 simp only [Act.put, List.setIfInBounds_toArray, List.set_cons_zero, List.set_cons_succ])
            refine Way.done (by kernel_rfl) (fun wE hS => ?_)
            have hS' := (SB_24.out _).1 hS
            obtain ⟨hb0, hb1, hb2, hn0, hn1, hn2, hn3, hB⟩ := hS'
            have c0_0 := hb0.cell 0
            have c1_0 := hb1.cell 0
            have c2_0 := hb2.cell 0
            clear hS
            go_wp2_with fail
            go_meet
            exact ⟨_, _, _, _, _, _, _, _, rfl, rfl, rfl, hb0, hb2, hb1, hn0, hn2, hn3, hB⟩
          · have hS' := (SB_20.out _).1 hS
            obtain ⟨hb0, ⟨u1_0, hb1⟩, hn0, hn1, hB⟩ := hS'
            have c0_0 := hb0.cell 0
            have c1_0 := hb1.cell 0
            have lt_V8_0 := hb0.lt
            have lt_V8_1 := hb1.lt
            have leB_V8 := Nat.le_trans SBL hB.size
            go_simp
            obtain ⟨S_25, SB_25⟩ : ∃ S_25 : World → Prop, Go.RowKit.Hid (∀ x : World, S_25 x ↔ (Blk x w2.heap.size 42 #[.slice A4 n4 c4] ∧ (∃ u0, Blk x V9.heap.size 42 #[u0]) ∧ (∃ u0, Blk x V8.heap.size 42 #[u0]) ∧ NatL x A4 n4 c4 (W64 * hi + lo) ∧ NatL x A5 n5 c5 (d) ∧ Below w.heap.size w x)) := ⟨_, Lib.hid (fun _ => Iff.rfl)⟩
            have hst : Stays S_25 := fun W W' h hb => by obtain ⟨hb0, ⟨u1_0, hb1⟩, ⟨u2_0, hb2⟩, hn0, hn1, hB⟩ := (SB_25.out _).1 h; exact (SB_25.out _).2 ⟨hb0.st hb, ⟨u1_0, hb1.st hb⟩, ⟨u2_0, hb2.st hb⟩, hn0.below hb, hn1.below hb, hB.trans (hb.mono (Nat.le_trans SBL hB.size))⟩
            have hle : ∀ x, S_25 x → S_20 x := fun x h => by obtain ⟨hb0, ⟨u1_0, hb1⟩, ⟨u2_0, hb2⟩, hn0, hn1, hB⟩ := (SB_25.out _).1 h; exact (SB_20.out _).2 ⟨hb0, ⟨u1_0, hb1⟩, hn0, hn1, hB⟩
            refine Moved.keep S_25 hst hle ((SB_25.out _).2 ⟨hb0.alloc _, ⟨u1_0, hb1.alloc _⟩, ⟨_, Blk.new V8 _ _⟩, hn0.below (below_new _ _), hn1.below (below_new _ _), hB.alloc (Nat.le_trans SBL hB.size) _⟩) ?_
            clear hst hle
            try simp only [Act.put, List.setIfInBounds_toArray, List.set_cons_zero, List.set_cons_succ]
            refine Way.move 3 (by rfl) (by kernel_rfl) (by rfl) (fun V6 hS => ?_)
            have hS' := (SB_25.out _).1 hS
            obtain ⟨hb0, ⟨u1_0, hb1⟩, ⟨u2_0, hb2⟩, hn0, hn1, hB⟩ := hS'
            have c0_0 := hb0.cell 0
            have c1_0 := hb1.cell 0
            have c2_0 := hb2.cell 0
            go_simp
            with_reducible refine (div_nat _ _ _ _ _ hn0.w hn1.w (Nat.le_trans (small128 HN.out) (by decide)) (Nat.le_trans (blen_le64 HD.out) (by decide)) HD0.out).mono ?_
            rintro e w6 ⟨A6, n6, c6, A7, n7, c7, rfl, hl, hl1, hb⟩
            refine ⟨_, rfl, ?_⟩
            obtain ⟨S_26, SB_26⟩ : ∃ S_26 : World → Prop, Go.RowKit.Hid (∀ x : World, S_26 x ↔ (Blk x w2.heap.size 42 #[.slice A4 n4 c4] ∧ (∃ u0, Blk x V9.heap.size 42 #[u0]) ∧ (∃ u0, Blk x V8.heap.size 42 #[u0]) ∧ NatL x A4 n4 c4 (W64 * hi + lo) ∧ NatL x A5 n5 c5 (d) ∧ NatL x A6 n6 c6 ((W64 * hi + lo) / d) ∧ NatL x A7 n7 c7 ((W64 * hi + lo) % d) ∧ Below w.heap.size w x)) := ⟨_, Lib.hid (fun _ => Iff.rfl)⟩
            have hst : Stays S_26 := fun W W' h hb => by obtain ⟨hb0, ⟨u1_0, hb1⟩, ⟨u2_0, hb2⟩, hn0, hn1, hn2, hn3, hB⟩ := (SB_26.out _).1 h; exact (SB_26.out _).2 ⟨hb0.st hb, ⟨u1_0, hb1.st hb⟩, ⟨u2_0, hb2.st hb⟩, hn0.below hb, hn1.below hb, hn2.below hb, hn3.below hb, hB.trans (hb.mono (Nat.le_trans SBL hB.size))⟩
            have hle : ∀ x, S_26 x → S_25 x := fun x h => by obtain ⟨hb0, ⟨u1_0, hb1⟩, ⟨u2_0, hb2⟩, hn0, hn1, hn2, hn3, hB⟩ := (SB_26.out _).1 h; exact (SB_25.out _).2 ⟨hb0, ⟨u1_0, hb1⟩, ⟨u2_0, hb2⟩, hn0, hn1, hB⟩
            refine Moved.keep S_26 hst hle ((SB_26.out _).2 ⟨hb0.st hb, ⟨u1_0, hb1.st hb⟩, ⟨u2_0, hb2.st hb⟩, hn0.below hb, hn1.below hb, hl, hl1, hB.trans (hb.mono (Nat.le_trans SBL hB.size))⟩) ?_
            clear hst hle
            try simp only [Act.put, List.setIfInBounds_toArray, List.set_cons_zero, List.set_cons_succ]
            first
              | (refine Way.no 4 (by rfl) (by kernel_rfl) (by rfl) ?_; simp only [Act.put, List.setIfInBounds_toArray, List.set_cons_zero, List.set_cons_succ])
              | (refine' Way.yes 4 (by rfl) (by kernel_rfl) (by rfl) (fun wS hS => ?_) ?_
                 rotate_left
                 · have hS' := (SB_26.out _).1 hS
                   obtain ⟨hb0, ⟨u1_0, hb1⟩, ⟨u2_0, hb2⟩, hn0, hn1, hn2, hn3, hB⟩ := hS'
                   have c0_0 := hb0.cell 0
                   have c1_0 := hb1.cell 0
                   have c2_0 := hb2.cell 0
                   go_simp
                   first
                     | exact ⟨rfl, Below.refl _ _⟩
                 simp only [Act.put, List.setIfInBounds_toArray, List.set_cons_zero, List.set_cons_succ])
            first
              | (refine Way.no 5 (by rfl) (by kernel_rfl) (by rfl) ?_; simp only [Act.put, List.setIfInBounds_toArray, List.set_cons_zero, List.set_cons_succ])
              | (refine' Way.yes 5 (by rfl) (by kernel_rfl) (by rfl) (fun wS hS => ?_) ?_
                 rotate_left
                 · have hS' := (SB_26.out _).1 hS
                   obtain ⟨hb0, ⟨u1_0, hb1⟩, ⟨u2_0, hb2⟩, hn0, hn1, hn2, hn3, hB⟩ := hS'
                   have c0_0 := hb0.cell 0
                   have c1_0 := hb1.cell 0
                   have c2_0 := hb2.cell 0
                   go_simp
                   first
                     | exact ⟨rfl, Below.refl _ _⟩
                 simp only [Act.put, List.setIfInBounds_toArray, List.set_cons_zero, List.set_cons_succ])
            first
              | (refine Way.no 6 (by rfl) (by kernel_rfl) (by rfl) ?_; simp only [Act.put, List.setIfInBounds_toArray, List.set_cons_zero, List.set_cons_succ])
              | (refine' Way.yes 6 (by rfl) (by kernel_rfl) (by rfl) (fun wS hS => ?_) ?_
                 rotate_left
                 · have hS' := (SB_26.out _).1 hS
                   obtain ⟨hb0, ⟨u1_0, hb1⟩, ⟨u2_0, hb2⟩, hn0, hn1, hn2, hn3, hB⟩ := hS'
                   have c0_0 := hb0.cell 0
                   have c1_0 := hb1.cell 0
                   have c2_0 := hb2.cell 0
                   go_simp
                   first
                     | exact ⟨rfl, Below.refl _ _⟩
                 simp only [Act.put, List.setIfInBounds_toArray, List.set_cons_zero, List.set_cons_succ])
            first
              | (refine Way.no 7 (by rfl) (by kernel_rfl) (by rfl) ?_; simp only [Act.put, List.setIfInBounds_toArray, List.set_cons_zero, List.set_cons_succ])
              | (refine' Way.yes 7 (by rfl) (by kernel_rfl) (by rfl) (fun wS hS => ?_) ?_
                 rotate_left
                 · have hS' := (SB_26.out _).1 hS
                   obtain ⟨hb0, ⟨u1_0, hb1⟩, ⟨u2_0, hb2⟩, hn0, hn1, hn2, hn3, hB⟩ := hS'
                   have c0_0 := hb0.cell 0
                   have c1_0 := hb1.cell 0
                   have c2_0 := hb2.cell 0
                   go_simp
                   first
                     | exact ⟨rfl, Below.refl _ _⟩
                 simp only [Act.put, List.setIfInBounds_toArray, List.set_cons_zero, List.set_cons_succ])
            refine Way.move 10 (by rfl) (by kernel_rfl) (by rfl) (fun wS hS => ?_)
            have hS' := (SB_26.out _).1 hS
            obtain ⟨hb0, ⟨u1_0, hb1⟩, ⟨u2_0, hb2⟩, hn0, hn1, hn2, hn3, hB⟩ := hS'
            have c0_0 := hb0.cell 0
            have c1_0 := hb1.cell 0
            have c2_0 := hb2.cell 0
            have f2_0 := hb2.frozen 0
            go_simp
            obtain ⟨S_27, SB_27⟩ : ∃ S_27 : World → Prop, Go.RowKit.Hid (∀ x : World, S_27 x ↔ (Blk x w2.heap.size 42 #[.slice A4 n4 c4] ∧ (∃ u0, Blk x V9.heap.size 42 #[u0]) ∧ Blk x V8.heap.size 42 #[.slice A6 n6 c6] ∧ NatL x A4 n4 c4 (W64 * hi + lo) ∧ NatL x A5 n5 c5 (d) ∧ NatL x A6 n6 c6 ((W64 * hi + lo) / d) ∧ NatL x A7 n7 c7 ((W64 * hi + lo) % d) ∧ Below w.heap.size w x)) := ⟨_, Lib.hid (fun _ => Iff.rfl)⟩
            have hst : Stays S_27 := fun W W' h hb => by obtain ⟨hb0, ⟨u1_0, hb1⟩, hb2, hn0, hn1, hn2, hn3, hB⟩ := (SB_27.out _).1 h; exact (SB_27.out _).2 ⟨hb0.st hb, ⟨u1_0, hb1.st hb⟩, hb2.st hb, hn0.below hb, hn1.below hb, hn2.below hb, hn3.below hb, hB.trans (hb.mono (Nat.le_trans SBL hB.size))⟩
            have hle : ∀ x, S_27 x → S_26 x := fun x h => by obtain ⟨hb0, ⟨u1_0, hb1⟩, hb2, hn0, hn1, hn2, hn3, hB⟩ := (SB_27.out _).1 h; exact (SB_26.out _).2 ⟨hb0, ⟨_, hb1⟩, ⟨_, hb2⟩, hn0, hn1, hn2, hn3, hB⟩
            refine Moved.keep S_27 hst hle ((SB_27.out _).2 ⟨(hb0.far (by first | (simp; done) | (simp; omega)) _), ⟨u1_0, (hb1.far (by first | (simp; done) | (simp; omega)) _)⟩, (hb2.set1 0 _), (hn0.set hb2 (by decide) _), (hn1.set hb2 (by decide) _), (hn2.set hb2 (by decide) _), (hn3.set hb2 (by decide) _), (hB.setCell (by first | (simp; done) | (simp; omega)) _)⟩) ?_
            clear hst hle
            try simp only [Act.put, List.setIfInBounds_toArray, List.set_cons_zero, List.set_cons_succ]
            refine Way.move 11 (by rfl) (by kernel_rfl) (by rfl) (fun wS hS => ?_)
            have hS' := (SB_27.out _).1 hS
            obtain ⟨hb0, ⟨u1_0, hb1⟩, hb2, hn0, hn1, hn2, hn3, hB⟩ := hS'
            have c0_0 := hb0.cell 0
            have c1_0 := hb1.cell 0
            have c2_0 := hb2.cell 0
            have f1_0 := hb1.frozen 0
            go_simp
            obtain ⟨S_28, SB_28⟩ : ∃ S_28 : World → Prop, Go.RowKit.Hid (∀ x : World, S_28 x ↔ (Blk x w2.heap.size 42 #[.slice A4 n4 c4] ∧ Blk x V9.heap.size 42 #[.slice A7 n7 c7] ∧ Blk x V8.heap.size 42 #[.slice A6 n6 c6] ∧ NatL x A4 n4 c4 (W64 * hi + lo) ∧ NatL x A5 n5 c5 (d) ∧ NatL x A6 n6 c6 ((W64 * hi + lo) / d) ∧ NatL x A7 n7 c7 ((W64 * hi + lo) % d) ∧ Below w.heap.size w x)) := ⟨_, Lib.hid (fun _ => Iff.rfl)⟩
            have hst : Stays S_28 := fun W W' h hb => by obtain ⟨hb0, hb1, hb2, hn0, hn1, hn2, hn3, hB⟩ := (SB_28.out _).1 h; exact (SB_28.out _).2 ⟨hb0.st hb, hb1.st hb, hb2.st hb, hn0.below hb, hn1.below hb, hn2.below hb, hn3.below hb, hB.trans (hb.mono (Nat.le_trans SBL hB.size))⟩
            have hle : ∀ x, S_28 x → S_27 x := fun x h => by obtain ⟨hb0, hb1, hb2, hn0, hn1, hn2, hn3, hB⟩ := (SB_28.out _).1 h; exact (SB_27.out _).2 ⟨hb0, ⟨_, hb1⟩, hb2, hn0, hn1, hn2, hn3, hB⟩
            refine Moved.keep S_28 hst hle ((SB_28.out _).2 ⟨(hb0.far (by first | (simp; done) | (simp; omega)) _), (hb1.set1 0 _), (hb2.far (by first | (simp; done) | (simp; omega)) _), (hn0.set hb1 (by decide) _), (hn1.set hb1 (by decide) _), (hn2.set hb1 (by decide) _), (hn3.set hb1 (by decide) _), (hB.setCell (by first | (simp; done) | (simp; omega)) _)⟩) ?_
            clear hst hle
            try simp only [Act.put, List.setIfInBounds_toArray, List.set_cons_zero, List.set_cons_succ]
            first
              | (refine Way.no 12 (by rfl) (by kernel_rfl) (by rfl) ?_; simp only [Act.put, List.setIfInBounds_toArray, List.set_cons_zero, List.set_cons_succ])
              | (refine' Way.yes 12 (by rfl) (by kernel_rfl) (by rfl) (fun wS hS => ?_) ?_
                 rotate_left
                 · have hS' := (SB_28.out _).1 hS
                   obtain ⟨hb0, hb1, hb2, hn0, hn1, hn2, hn3, hB⟩ := hS'
                   have c0_0 := hb0.cell 0
                   have c1_0 := hb1.cell 0
                   have c2_0 := hb2.cell 0
                   go_simp
                   first
                     | exact ⟨rfl, Below.refl _ _⟩
                 simp only [Act.put, List.setIfInBounds_toArray, List.set_cons_zero, List.set_cons_succ])
            refine Way.done (by kernel_rfl) (fun wE hS => ?_)
            have hS' := (SB_28.out _).1 hS
            obtain ⟨hb0, hb1, hb2, hn0, hn1, hn2, hn3, hB⟩ := hS'
            have c0_0 := hb0.cell 0
            have c1_0 := hb1.cell 0
            have c2_0 := hb2.cell 0
            clear hS
            go_wp2_with fail
            go_meet
            exact ⟨_, _, _, _, _, _, _, _, rfl, rfl, rfl, hb0, hb2, hb1, hn0, hn2, hn3, hB⟩
      · have hS' := (SB.out _).1 hS
        obtain ⟨hb0, hn0, hB⟩ := hS'
        have c0_0 := hb0.cell 0
        have lt_V8_0 := hb0.lt
        have leB_V8 := Nat.le_trans SBL hB.size
        go_simp
        obtain ⟨S_29, SB_29⟩ : ∃ S_29 : World → Prop, Go.RowKit.Hid (∀ x : World, S_29 x ↔ (Blk x w2.heap.size 42 #[.slice A4 n4 c4] ∧ (∃ u0, Blk x V8.heap.size 42 #[u0]) ∧ NatL x A4 n4 c4 (W64 * hi + lo) ∧ Below w.heap.size w x)) := ⟨_, Lib.hid (fun _ => Iff.rfl)⟩
        have hst : Stays S_29 := fun W W' h hb => by obtain ⟨hb0, ⟨u1_0, hb1⟩, hn0, hB⟩ := (SB_29.out _).1 h; exact (SB_29.out _).2 ⟨hb0.st hb, ⟨u1_0, hb1.st hb⟩, hn0.below hb, hB.trans (hb.mono (Nat.le_trans SBL hB.size))⟩
        have hle : ∀ x, S_29 x → S x := fun x h => by obtain ⟨hb0, ⟨u1_0, hb1⟩, hn0, hB⟩ := (SB_29.out _).1 h; exact (SB.out _).2 ⟨hb0, hn0, hB⟩
        refine Moved.keep S_29 hst hle ((SB_29.out _).2 ⟨hb0.alloc _, ⟨_, Blk.new V8 _ _⟩, hn0.below (below_new _ _), hB.alloc (Nat.le_trans SBL hB.size) _⟩) ?_
        clear hst hle
        try simp only [Act.put, List.setIfInBounds_toArray, List.set_cons_zero, List.set_cons_succ]
        refine Way.move2 2 9 (by rfl) (by rfl) (by kernel_rfl) (by rfl) (by rfl) (fun V5 hS => ?_) (fun V9 hS => ?_)
        · have hS' := (SB_29.out _).1 hS
          obtain ⟨hb0, ⟨u1_0, hb1⟩, hn0, hB⟩ := hS'
          have c0_0 := hb0.cell 0
          have c1_0 := hb1.cell 0
          go_simp
          with_reducible refine (of_any d _ HD.out).mono ?_
          rintro e w5 ⟨A5, n5, c5, rfl, hl, hb⟩
          refine ⟨_, rfl, ?_⟩
          obtain ⟨S_30, SB_30⟩ : ∃ S_30 : World → Prop, Go.RowKit.Hid (∀ x : World, S_30 x ↔ (Blk x w2.heap.size 42 #[.slice A4 n4 c4] ∧ (∃ u0, Blk x V8.heap.size 42 #[u0]) ∧ NatL x A4 n4 c4 (W64 * hi + lo) ∧ NatL x A5 n5 c5 (d) ∧ Below w.heap.size w x)) := ⟨_, Lib.hid (fun _ => Iff.rfl)⟩
          have hst : Stays S_30 := fun W W' h hb => by obtain ⟨hb0, ⟨u1_0, hb1⟩, hn0, hn1, hB⟩ := (SB_30.out _).1 h; exact (SB_30.out _).2 ⟨hb0.st hb, ⟨u1_0, hb1.st hb⟩, hn0.below hb, hn1.below hb, hB.trans (hb.mono (Nat.le_trans SBL hB.size))⟩
          have hle : ∀ x, S_30 x → S_29 x := fun x h => by obtain ⟨hb0, ⟨u1_0, hb1⟩, hn0, hn1, hB⟩ := (SB_30.out _).1 h; exact (SB_29.out _).2 ⟨hb0, ⟨u1_0, hb1⟩, hn0, hB⟩
          refine Moved.keep S_30 hst hle ((SB_30.out _).2 ⟨hb0.st hb, ⟨u1_0, hb1.st hb⟩, hn0.below hb, hl, hB.trans (hb.mono (Nat.le_trans SBL hB.size))⟩) ?_
          clear hst hle
          try simp only [Act.put, List.setIfInBounds_toArray, List.set_cons_zero, List.set_cons_succ]
          refine Way.move2 3 9 (by rfl) (by rfl) (by kernel_rfl) (by rfl) (by rfl) (fun V6 hS => ?_) (fun V9 hS => ?_)
          · have hS' := (SB_30.out _).1 hS
            obtain ⟨hb0, ⟨u1_0, hb1⟩, hn0, hn1, hB⟩ := hS'
            have c0_0 := hb0.cell 0
            have c1_0 := hb1.cell 0
            go_simp
            with_reducible refine (div_nat _ _ _ _ _ hn0.w hn1.w (Nat.le_trans (small128 HN.out) (by decide)) (Nat.le_trans (blen_le64 HD.out) (by decide)) HD0.out).mono ?_
            rintro e w6 ⟨A6, n6, c6, A7, n7, c7, rfl, hl, hl1, hb⟩
            refine ⟨_, rfl, ?_⟩
            obtain ⟨S_31, SB_31⟩ : ∃ S_31 : World → Prop, Go.RowKit.Hid (∀ x : World, S_31 x ↔ (Blk x w2.heap.size 42 #[.slice A4 n4 c4] ∧ (∃ u0, Blk x V8.heap.size 42 #[u0]) ∧ NatL x A4 n4 c4 (W64 * hi + lo) ∧ NatL x A5 n5 c5 (d) ∧ NatL x A6 n6 c6 ((W64 * hi + lo) / d) ∧ NatL x A7 n7 c7 ((W64 * hi + lo) % d) ∧ Below w.heap.size w x)) := ⟨_, Lib.hid (fun _ => Iff.rfl)⟩
            have hst : Stays S_31 := fun W W' h hb => by obtain ⟨hb0, ⟨u1_0, hb1⟩, hn0, hn1, hn2, hn3, hB⟩ := (SB_31.out _).1 h; exact (SB_31.out _).2 ⟨hb0.st hb, ⟨u1_0, hb1.st hb⟩, hn0.below hb, hn1.below hb, hn2.below hb, hn3.below hb, hB.trans (hb.mono (Nat.le_trans SBL hB.size))⟩
            have hle : ∀ x, S_31 x → S_30 x := fun x h => by obtain ⟨hb0, ⟨u1_0, hb1⟩, hn0, hn1, hn2, hn3, hB⟩ := (SB_31.out _).1 h; exact (SB_30.out _).2 ⟨hb0, ⟨u1_0, hb1⟩, hn0, hn1, hB⟩
            refine Moved.keep S_31 hst hle ((SB_31.out _).2 ⟨hb0.st hb, ⟨u1_0, hb1.st hb⟩, hn0.below hb, hn1.below hb, hl, hl1, hB.trans (hb.mono (Nat.le_trans SBL hB.size))⟩) ?_
            clear hst hle
            try simp only [Act.put, List.setIfInBounds_toArray, List.set_cons_zero, List.set_cons_succ]
            first
              | (refine Way.no 4 (by rfl) (by kernel_rfl) (by rfl) ?_; simp only [Act.put, List.setIfInBounds_toArray, List.set_cons_zero, List.set_cons_succ])
              | (refine' Way.yes 4 (by rfl) (by kernel_rfl) (by rfl) (fun wS hS => ?_) ?_
                 rotate_left
                 · have hS' := (SB_31.out _).1 hS
                   obtain ⟨hb0, ⟨u1_0, hb1⟩, hn0, hn1, hn2, hn3, hB⟩ := hS'
                   have c0_0 := hb0.cell 0
                   have c1_0 := hb1.cell 0
                   go_simp
                   first
                     | exact ⟨rfl, Below.refl _ _⟩
                 simp only [Act.put, List.setIfInBounds_toArray, List.set_cons_zero, List.set_cons_succ])
            first
              | (refine Way.no 5 (by rfl) (by kernel_rfl) (by rfl) ?_; simp only [Act.put, List.setIfInBounds_toArray, List.set_cons_zero, List.set_cons_succ])
              | (refine' Way.yes 5 (by rfl) (by kernel_rfl) (by rfl) (fun wS hS => ?_) ?_
                 rotate_left
                 · have hS' := (SB_31.out _).1 hS
                   obtain ⟨hb0, ⟨u1_0, hb1⟩, hn0, hn1, hn2, hn3, hB⟩ := hS'
                   have c0_0 := hb0.cell 0
                   have c1_0 := hb1.cell 0
                   go_simp
                   first
                     | exact ⟨rfl, Below.refl _ _⟩
                 simp only [Act.put, List.setIfInBounds_toArray, List.set_cons_zero, List.set_cons_succ])
            first
              | (refine Way.no 6 (by rfl) (by kernel_rfl) (by rfl) ?_; simp only [Act.put, List.setIfInBounds_toArray, List.set_cons_zero, List.set_cons_succ])
              | (refine' Way.yes 6 (by rfl) (by kernel_rfl) (by rfl) (fun wS hS => ?_) ?_
                 rotate_left
                 · have hS' := (SB_31.out _).1 hS
                   obtain ⟨hb0, ⟨u1_0, hb1⟩, hn0, hn1, hn2, hn3, hB⟩ := hS'
                   have c0_0 := hb0.cell 0
                   have c1_0 := hb1.cell 0
                   go_simp
                   first
                     | exact ⟨rfl, Below.refl _ _⟩
                 simp only [Act.put, List.setIfInBounds_toArray, List.set_cons_zero, List.set_cons_succ])
            first
              | (refine Way.no 7 (by rfl) (by kernel_rfl) (by rfl) ?_; simp only [Act.put, List.setIfInBounds_toArray, List.set_cons_zero, List.set_cons_succ])
              | (refine' Way.yes 7 (by rfl) (by kernel_rfl) (by rfl) (fun wS hS => ?_) ?_
                 rotate_left
                 · have hS' := (SB_31.out _).1 hS
                   obtain ⟨hb0, ⟨u1_0, hb1⟩, hn0, hn1, hn2, hn3, hB⟩ := hS'
                   have c0_0 := hb0.cell 0
                   have c1_0 := hb1.cell 0
                   go_simp
                   first
                     | exact ⟨rfl, Below.refl _ _⟩
                 simp only [Act.put, List.setIfInBounds_toArray, List.set_cons_zero, List.set_cons_succ])
            refine Way.move 9 (by rfl) (by kernel_rfl) (by rfl) (fun V9 hS => ?_)
            have hS' := (SB_31.out _).1 hS
            obtain ⟨hb0, ⟨u1_0, hb1⟩, hn0, hn1, hn2, hn3, hB⟩ := hS'
            have c0_0 := hb0.cell 0
            have c1_0 := hb1.cell 0
            have lt_V9_0 := hb0.lt
            have lt_V9_1 := hb1.lt
            have leB_V9 := Nat.le_trans SBL hB.size
            go_simp
            obtain ⟨S_32, SB_32⟩ : ∃ S_32 : World → Prop, Go.RowKit.Hid (∀ x : World, S_32 x ↔ (Blk x w2.heap.size 42 #[.slice A4 n4 c4] ∧ (∃ u0, Blk x V8.heap.size 42 #[u0]) ∧ (∃ u0, Blk x V9.heap.size 42 #[u0]) ∧ NatL x A4 n4 c4 (W64 * hi + lo) ∧ NatL x A5 n5 c5 (d) ∧ NatL x A6 n6 c6 ((W64 * hi + lo) / d) ∧ NatL x A7 n7 c7 ((W64 * hi + lo) % d) ∧ Below w.heap.size w x)) := ⟨_, Lib.hid (fun _ => Iff.rfl)⟩
            have hst : Stays S_32 := fun W W' h hb => by obtain ⟨hb0, ⟨u1_0, hb1⟩, ⟨u2_0, hb2⟩, hn0, hn1, hn2, hn3, hB⟩ := (SB_32.out _).1 h; exact (SB_32.out _).2 ⟨hb0.st hb, ⟨u1_0, hb1.st hb⟩, ⟨u2_0, hb2.st hb⟩, hn0.below hb, hn1.below hb, hn2.below hb, hn3.below hb, hB.trans (hb.mono (Nat.le_trans SBL hB.size))⟩
            have hle : ∀ x, S_32 x → S_31 x := fun x h => by obtain ⟨hb0, ⟨u1_0, hb1⟩, ⟨u2_0, hb2⟩, hn0, hn1, hn2, hn3, hB⟩ := (SB_32.out _).1 h; exact (SB_31.out _).2 ⟨hb0, ⟨u1_0, hb1⟩, hn0, hn1, hn2, hn3, hB⟩
            refine Moved.keep S_32 hst hle ((SB_32.out _).2 ⟨hb0.alloc _, ⟨u1_0, hb1.alloc _⟩, ⟨_, Blk.new V9 _ _⟩, hn0.below (below_new _ _), hn1.below (below_new _ _), hn2.below (below_new _ _), hn3.below (below_new _ _), hB.alloc (Nat.le_trans SBL hB.size) _⟩) ?_
            clear hst hle
            try simp only [Act.put, List.setIfInBounds_toArray, List.set_cons_zero, List.set_cons_succ]
            refine Way.move 10 (by rfl) (by kernel_rfl) (by rfl) (fun wS hS => ?_)
            have hS' := (SB_32.out _).1 hS
            obtain ⟨hb0, ⟨u1_0, hb1⟩, ⟨u2_0, hb2⟩, hn0, hn1, hn2, hn3, hB⟩ := hS'
            have c0_0 := hb0.cell 0
            have c1_0 := hb1.cell 0
            have c2_0 := hb2.cell 0
            have f1_0 := hb1.frozen 0
            go_simp
            obtain ⟨S_33, SB_33⟩ : ∃ S_33 : World → Prop, Go.RowKit.Hid (∀ x : World, S_33 x ↔ (Blk x w2.heap.size 42 #[.slice A4 n4 c4] ∧ Blk x V8.heap.size 42 #[.slice A6 n6 c6] ∧ (∃ u0, Blk x V9.heap.size 42 #[u0]) ∧ NatL x A4 n4 c4 (W64 * hi + lo) ∧ NatL x A5 n5 c5 (d) ∧ NatL x A6 n6 c6 ((W64 * hi + lo) / d) ∧ NatL x A7 n7 c7 ((W64 * hi + lo) % d) ∧ Below w.heap.size w x)) := ⟨_, Lib.hid (fun _ => Iff.rfl)⟩
            have hst : Stays S_33 := fun W W' h hb => by obtain ⟨hb0, hb1, ⟨u2_0, hb2⟩, hn0, hn1, hn2, hn3, hB⟩ := (SB_33.out _).1 h; exact (SB_33.out _).2 ⟨hb0.st hb, hb1.st hb, ⟨u2_0, hb2.st hb⟩, hn0.below hb, hn1.below hb, hn2.below hb, hn3.below hb, hB.trans (hb.mono (Nat.le_trans SBL hB.size))⟩
            have hle : ∀ x, S_33 x → S_32 x := fun x h => by obtain ⟨hb0, hb1, ⟨u2_0, hb2⟩, hn0, hn1, hn2, hn3, hB⟩ := (SB_33.out _).1 h; exact (SB_32.out _).2 ⟨hb0, ⟨_, hb1⟩, ⟨_, hb2⟩, hn0, hn1, hn2, hn3, hB⟩
            refine Moved.keep S_33 hst hle ((SB_33.out _).2 ⟨(hb0.far (by first | (simp; done) | (simp; omega)) _), (hb1.set1 0 _), ⟨u2_0, (hb2.far (by first | (simp; done) | (simp; omega)) _)⟩, (hn0.set hb1 (by decide) _), (hn1.set hb1 (by decide) _), (hn2.set hb1 (by decide) _), (hn3.set hb1 (by decide) _), (hB.setCell (by first | (simp; done) | (simp; omega)) _)⟩) ?_
            clear hst hle
            try simp only [Act.put, List.setIfInBounds_toArray, List.set_cons_zero, List.set_cons_succ]
            refine Way.move 11 (by rfl) (by kernel_rfl) (by rfl) (fun wS hS => ?_)
            have hS' := (SB_33.out _).1 hS
            obtain ⟨hb0, hb1, ⟨u2_0, hb2⟩, hn0, hn1, hn2, hn3, hB⟩ := hS'
            have c0_0 := hb0.cell 0
            have c1_0 := hb1.cell 0
            have c2_0 := hb2.cell 0
            have f2_0 := hb2.frozen 0
            go_simp
            obtain ⟨S_34, SB_34⟩ : ∃ S_34 : World → Prop, Go.RowKit.Hid (∀ x : World, S_34 x ↔ (Blk x w2.heap.size 42 #[.slice A4 n4 c4] ∧ Blk x V8.heap.size 42 #[.slice A6 n6 c6] ∧ Blk x V9.heap.size 42 #[.slice A7 n7 c7] ∧ NatL x A4 n4 c4 (W64 * hi + lo) ∧ NatL x A5 n5 c5 (d) ∧ NatL x A6 n6 c6 ((W64 * hi + lo) / d) ∧ NatL x A7 n7 c7 ((W64 * hi + lo) % d) ∧ Below w.heap.size w x)) := ⟨_, Lib.hid (fun _ => Iff.rfl)⟩
            have hst : Stays S_34 := fun W W' h hb => by obtain ⟨hb0, hb1, hb2, hn0, hn1, hn2, hn3, hB⟩ := (SB_34.out _).1 h; exact (SB_34.out _).2 ⟨hb0.st hb, hb1.st hb, hb2.st hb, hn0.below hb, hn1.below hb, hn2.below hb, hn3.below hb, hB.trans (hb.mono (Nat.le_trans SBL hB.size))⟩
            have hle : ∀ x, S_34 x → S_33 x := fun x h => by obtain ⟨hb0, hb1, hb2, hn0, hn1, hn2, hn3, hB⟩ := (SB_34.out _).1 h; exact (SB_33.out _).2 ⟨hb0, hb1, ⟨_, hb2⟩, hn0, hn1, hn2, hn3, hB⟩
            refine Moved.keep S_34 hst hle ((SB_34.out _).2 ⟨(hb0.far (by first | (simp; done) | (simp; omega)) _), (hb1.far (by first | (simp; done) | (simp; omega)) _), (hb2.set1 0 _), (hn0.set hb2 (by decide) _), (hn1.set hb2 (by decide) _), (hn2.set hb2 (by decide) _), (hn3.set hb2 (by decide) _), (hB.setCell (by first | (simp; done) | (simp; omega)) _)⟩) ?_
            clear hst hle
            try simp only [Act.put, List.setIfInBounds_toArray, List.set_cons_zero, List.set_cons_succ]
            first
              | (refine Way.no 12 (by rfl) (by kernel_rfl) (by rfl) ?_; simp only [Act.put, List.setIfInBounds_toArray, List.set_cons_zero, List.set_cons_succ])
              | (refine' Way.yes 12 (by rfl) (by kernel_rfl) (by rfl) (fun wS hS => ?_) ?_
                 rotate_left
                 · have hS' := (SB_34.out _).1 hS
                   obtain ⟨hb0, hb1, hb2, hn0, hn1, hn2, hn3, hB⟩ := hS'
                   have c0_0 := hb0.cell 0
                   have c1_0 := hb1.cell 0
                   have c2_0 := hb2.cell 0
                   go_simp
                   first
                     | exact ⟨rfl, Below.refl _ _⟩
                 simp only [Act.put, List.setIfInBounds_toArray, List.set_cons_zero, List.set_cons_succ])
            refine Way.done (by kernel_rfl) (fun wE hS => ?_)
            have hS' := (SB_34.out _).1 hS
            obtain ⟨hb0, hb1, hb2, hn0, hn1, hn2, hn3, hB⟩ := hS'
            have c0_0 := hb0.cell 0
            have c1_0 := hb1.cell 0
            have c2_0 := hb2.cell 0
            clear hS
            go_wp2_with fail
            go_meet
            exact ⟨_, _, _, _, _, _, _, _, rfl, rfl, rfl, hb0, hb1, hb2, hn0, hn2, hn3, hB⟩
          · have hS' := (SB_30.out _).1 hS
            obtain ⟨hb0, ⟨u1_0, hb1⟩, hn0, hn1, hB⟩ := hS'
            have c0_0 := hb0.cell 0
            have c1_0 := hb1.cell 0
            have lt_V9_0 := hb0.lt
            have lt_V9_1 := hb1.lt
            have leB_V9 := Nat.le_trans SBL hB.size
            go_simp
            obtain ⟨S_35, SB_35⟩ : ∃ S_35 : World → Prop, Go.RowKit.Hid (∀ x : World, S_35 x ↔ (Blk x w2.heap.size 42 #[.slice A4 n4 c4] ∧ (∃ u0, Blk x V8.heap.size 42 #[u0]) ∧ (∃ u0, Blk x V9.heap.size 42 #[u0]) ∧ NatL x A4 n4 c4 (W64 * hi + lo) ∧ NatL x A5 n5 c5 (d) ∧ Below w.heap.size w x)) := ⟨_, Lib.hid (fun _ => Iff.rfl)⟩
            have hst : Stays S_35 := fun W W' h hb => by obtain ⟨hb0, ⟨u1_0, hb1⟩, ⟨u2_0, hb2⟩, hn0, hn1, hB⟩ := (SB_35.out _).1 h; exact (SB_35.out _).2 ⟨hb0.st hb, ⟨u1_0, hb1.st hb⟩, ⟨u2_0, hb2.st hb⟩, hn0.below hb, hn1.below hb, hB.trans (hb.mono (Nat.le_trans SBL hB.size))⟩
            have hle : ∀ x, S_35 x → S_30 x := fun x h => by obtain ⟨hb0, ⟨u1_0, hb1⟩, ⟨u2_0, hb2⟩, hn0, hn1, hB⟩ := (SB_35.out _).1 h; exact (SB_30.out _).2 ⟨hb0, ⟨u1_0, hb1⟩, hn0, hn1, hB⟩
            refine Moved.keep S_35 hst hle ((SB_35.out _).2 ⟨hb0.alloc _, ⟨u1_0, hb1.alloc _⟩, ⟨_, Blk.new V9 _ _⟩, hn0.below (below_new _ _), hn1.below (below_new _ _), hB.alloc (Nat.le_trans SBL hB.size) _⟩) ?_
            clear hst hle
            try simp only [Act.put, List.setIfInBounds_toArray, List.set_cons_zero, List.set_cons_succ]
            refine Way.move 3 (by rfl) (by kernel_rfl) (by rfl) (fun V6 hS => ?_)
            have hS' := (SB_35.out _).1 hS
            obtain ⟨hb0, ⟨u1_0, hb1⟩, ⟨u2_0, hb2⟩, hn0, hn1, hB⟩ := hS'
            have c0_0 := hb0.cell 0
            have c1_0 := hb1.cell 0
            have c2_0 := hb2.cell 0
            go_simp
            with_reducible refine (div_nat _ _ _ _ _ hn0.w hn1.w (Nat.le_trans (small128 HN.out) (by decide)) (Nat.le_trans (blen_le64 HD.out) (by decide)) HD0.out).mono ?_
            rintro e w6 ⟨A6, n6, c6, A7, n7, c7, rfl, hl, hl1, hb⟩
            refine ⟨_, rfl, ?_⟩
            obtain ⟨S_36, SB_36⟩ : ∃ S_36 : World → Prop, Go.RowKit.Hid (∀ x : World, S_36 x ↔ (Blk x w2.heap.size 42 #[.slice A4 n4 c4] ∧ (∃ u0, Blk x V8.heap.size 42 #[u0]) ∧ (∃ u0, Blk x V9.heap.size 42 #[u0]) ∧ NatL x A4 n4 c4 (W64 * hi + lo) ∧ NatL x A5 n5 c5 (d) ∧ NatL x A6 n6 c6 ((W64 * hi + lo) / d) ∧ NatL x A7 n7 c7 ((W64 * hi + lo) % d) ∧ Below w.heap.size w x)) := ⟨_, Lib.hid (fun _ => Iff.rfl)⟩
            have hst : Stays S_36 := fun W W' h hb => by obtain ⟨hb0, ⟨u1_0, hb1⟩, ⟨u2_0, hb2⟩, hn0, hn1, hn2, hn3, hB⟩ := (SB_36.out _).1 h; exact (SB_36.out _).2 ⟨hb0.st hb, ⟨u1_0, hb1.st hb⟩, ⟨u2_0, hb2.st hb⟩, hn0.below hb, hn1.below hb, hn2.below hb, hn3.below hb, hB.trans (hb.mono (Nat.le_trans SBL hB.size))⟩
            have hle : ∀ x, S_36 x → S_35 x := fun x h => by obtain ⟨hb0, ⟨u1_0, hb1⟩, ⟨u2_0, hb2⟩, hn0, hn1, hn2, hn3, hB⟩ := (SB_36.out _).1 h; exact (SB_35.out _).2 ⟨hb0, ⟨u1_0, hb1⟩, ⟨u2_0, hb2⟩, hn0, hn1, hB⟩
            refine Moved.keep S_36 hst hle ((SB_36.out _).2 ⟨hb0.st hb, ⟨u1_0, hb1.st hb⟩, ⟨u2_0, hb2.st hb⟩, hn0.below hb, hn1.below hb, hl, hl1, hB.trans (hb.mono (Nat.le_trans SBL hB.size))⟩) ?_
            clear hst hle
            try simp only [Act.put, List.setIfInBounds_toArray, List.set_cons_zero, List.set_cons_succ]
            first
              | (refine Way.no 4 (by rfl) (by kernel_rfl) (by rfl) ?_; simp only [Act.put, List.setIfInBounds_toArray, List.set_cons_zero, List.set_cons_succ])
              | (refine' Way.yes 4 (by rfl) (by kernel_rfl) (by rfl) (fun wS hS => ?_) ?_
                 rotate_left
                 · have hS' := (SB_36.out _).1 hS
                   obtain ⟨hb0, ⟨u1_0, hb1⟩, ⟨u2_0, hb2⟩, hn0, hn1, hn2, hn3, hB⟩ := hS'
                   have c0_0 := hb0.cell 0
                   have c1_0 := hb1.cell 0
                   have c2_0 := hb2.cell 0
                   go_simp
                   first
                     | exact ⟨rfl, Below.refl _ _⟩
                 simp only [Act.put, List.setIfInBounds_toArray, List.set_cons_zero, List.set_cons_succ])
            first
              | (refine Way.no 5 (by rfl) (by kernel_rfl) (by rfl) ?_; simp only [Act.put, List.setIfInBounds_toArray, List.set_cons_zero, List.set_cons_succ])
              | (refine' Way.yes 5 (by rfl) (by kernel_rfl) (by rfl) (fun wS hS => ?_) ?_
                 rotate_left
                 · have hS' := (SB_36.out _).1 hS
                   obtain ⟨hb0, ⟨u1_0, hb1⟩, ⟨u2_0, hb2⟩, hn0, hn1, hn2, hn3, hB⟩ := hS'
                   have c0_0 := hb0.cell 0
                   have c1_0 := hb1.cell 0
                   have c2_0 := hb2.cell 0
                   go_simp
                   first
                     | exact ⟨rfl, Below.refl _ _⟩
                 simp only [Act.put, List.setIfInBounds_toArray, List.set_cons_zero, List.set_cons_succ])
            first
              | (refine Way.no 6 (by rfl) (by kernel_rfl) (by rfl) ?_; simp only [Act.put, List.setIfInBounds_toArray, List.set_cons_zero, List.set_cons_succ])
              | (refine' Way.yes 6 (by rfl) (by kernel_rfl) (by rfl) (fun wS hS => ?_) ?_
                 rotate_left
                 · have hS' := (SB_36.out _).1 hS
                   obtain ⟨hb0, ⟨u1_0, hb1⟩, ⟨u2_0, hb2⟩, hn0, hn1, hn2, hn3, hB⟩ := hS'
                   have c0_0 := hb0.cell 0
                   have c1_0 := hb1.cell 0
                   have c2_0 := hb2.cell 0
                   go_simp
                   first
                     | exact ⟨rfl, Below.refl _ _⟩
                 simp only [Act.put, List.setIfInBounds_toArray, List.set_cons_zero, List.set_cons_succ])
            first
              | (refine Way.no 7 (by rfl) (by kernel_rfl) (by rfl) ?_; simp only [Act.put, List.setIfInBounds_toArray, List.set_cons_zero, List.set_cons_succ])
              | (refine' Way.yes 7 (by rfl) (by kernel_rfl) (by rfl) (fun wS hS => ?_) ?_
                 rotate_left
                 · have hS' := (SB_36.out _).1 hS
                   obtain ⟨hb0, ⟨u1_0, hb1⟩, ⟨u2_0, hb2⟩, hn0, hn1, hn2, hn3, hB⟩ := hS'
                   have c0_0 := hb0.cell 0
                   have c1_0 := hb1.cell 0
                   have c2_0 := hb2.cell 0
                   go_simp
                   first
                     | exact ⟨rfl, Below.refl _ _⟩
                 simp only [Act.put, List.setIfInBounds_toArray, List.set_cons_zero, List.set_cons_succ])
            refine Way.move 10 (by rfl) (by kernel_rfl) (by rfl) (fun wS hS => ?_)
            have hS' := (SB_36.out _).1 hS
            obtain ⟨hb0, ⟨u1_0, hb1⟩, ⟨u2_0, hb2⟩, hn0, hn1, hn2, hn3, hB⟩ := hS'
            have c0_0 := hb0.cell 0
            have c1_0 := hb1.cell 0
            have c2_0 := hb2.cell 0
            have f1_0 := hb1.frozen 0
            go_simp
            obtain ⟨S_37, SB_37⟩ : ∃ S_37 : World → Prop, Go.RowKit.Hid (∀ x : World, S_37 x ↔ (Blk x w2.heap.size 42 #[.slice A4 n4 c4] ∧ Blk x V8.heap.size 42 #[.slice A6 n6 c6] ∧ (∃ u0, Blk x V9.heap.size 42 #[u0]) ∧ NatL x A4 n4 c4 (W64 * hi + lo) ∧ NatL x A5 n5 c5 (d) ∧ NatL x A6 n6 c6 ((W64 * hi + lo) / d) ∧ NatL x A7 n7 c7 ((W64 * hi + lo) % d) ∧ Below w.heap.size w x)) := ⟨_, Lib.hid (fun _ => Iff.rfl)⟩
            have hst : Stays S_37 := fun W W' h hb => by obtain ⟨hb0, hb1, ⟨u2_0, hb2⟩, hn0, hn1, hn2, hn3, hB⟩ := (SB_37.out _).1 h; exact (SB_37.out _).2 ⟨hb0.st hb, hb1.st hb, ⟨u2_0, hb2.st hb⟩, hn0.below hb, hn1.below hb, hn2.below hb, hn3.below hb, hB.trans (hb.mono (Nat.le_trans SBL hB.size))⟩
            have hle : ∀ x, S_37 x → S_36 x := fun x h => by obtain ⟨hb0, hb1, ⟨u2_0, hb2⟩, hn0, hn1, hn2, hn3, hB⟩ := (SB_37.out _).1 h; exact (SB_36.out _).2 ⟨hb0, ⟨_, hb1⟩, ⟨_, hb2⟩, hn0, hn1, hn2, hn3, hB⟩
            refine Moved.keep S_37 hst hle ((SB_37.out _).2 ⟨(hb0.far (by first | (simp; done) | (simp; omega)) _), (hb1.set1 0 _), ⟨u2_0, (hb2.far (by first | (simp; done) | (simp; omega)) _)⟩, (hn0.set hb1 (by decide) _), (hn1.set hb1 (by decide) _), (hn2.set hb1 (by decide) _), (hn3.set hb1 (by decide) _), (hB.setCell (by first | (simp; done) | (simp; omega)) _)⟩) ?_
            clear hst hle
            try simp only [Act.put, List.setIfInBounds_toArray, List.set_cons_zero, List.set_cons_succ]
            refine Way.move 11 (by rfl) (by kernel_rfl) (by rfl) (fun wS hS => ?_)
            have hS' := (SB_37.out _).1 hS
            obtain ⟨hb0, hb1, ⟨u2_0, hb2⟩, hn0, hn1, hn2, hn3, hB⟩ := hS'
            have c0_0 := hb0.cell 0
            have c1_0 := hb1.cell 0
            have c2_0 := hb2.cell 0
            have f2_0 := hb2.frozen 0
            go_simp
            obtain ⟨S_38, SB_38⟩ : ∃ S_38 : World → Prop, Go.RowKit.Hid (∀ x : World, S_38 x ↔ (Blk x w2.heap.size 42 #[.slice A4 n4 c4] ∧ Blk x V8.heap.size 42 #[.slice A6 n6 c6] ∧ Blk x V9.heap.size 42 #[.slice A7 n7 c7] ∧ NatL x A4 n4 c4 (W64 * hi + lo) ∧ NatL x A5 n5 c5 (d) ∧ NatL x A6 n6 c6 ((W64 * hi + lo) / d) ∧ NatL x A7 n7 c7 ((W64 * hi + lo) % d) ∧ Below w.heap.size w x)) := ⟨_, Lib.hid (fun _ => Iff.rfl)⟩
            have hst : Stays S_38 := fun W W' h hb => by obtain ⟨hb0, hb1, hb2, hn0, hn1, hn2, hn3, hB⟩ := (SB_38.out _).1 h; exact (SB_38.out _).2 ⟨hb0.st hb, hb1.st hb, hb2.st hb, hn0.below hb, hn1.below hb, hn2.below hb, hn3.below hb, hB.trans (hb.mono (Nat.le_trans SBL hB.size))⟩
            have hle : ∀ x, S_38 x → S_37 x := fun x h => by obtain ⟨hb0, hb1, hb2, hn0, hn1, hn2, hn3, hB⟩ := (SB_38.out _).1 h; exact (SB_37.out _).2 ⟨hb0, hb1, ⟨_, hb2⟩, hn0, hn1, hn2, hn3, hB⟩
            refine Moved.keep S_38 hst hle ((SB_38.out _).2 ⟨(hb0.far (by first | (simp; done) | (simp; omega)) _), (hb1.far (by first | (simp; done) | (simp; omega)) _), (hb2.set1 0 _), (hn0.set hb2 (by decide) _), (hn1.set hb2 (by decide) _), (hn2.set hb2 (by decide) _), (hn3.set hb2 (by decide) _), (hB.setCell (by first | (simp; done) | (simp; omega)) _)⟩) ?_
            clear hst hle
            try simp only [Act.put, List.setIfInBounds_toArray, List.set_cons_zero, List.set_cons_succ]
            first
              | (refine Way.no 12 (by rfl) (by kernel_rfl) (by rfl) ?_; simp only [Act.put, List.setIfInBounds_toArray, List.set_cons_zero, List.set_cons_succ])
              | (refine' Way.yes 12 (by rfl) (by kernel_rfl) (by rfl) (fun wS hS => ?_) ?_
                 rotate_left
                 · have hS' := (SB_38.out _).1 hS
                   obtain ⟨hb0, hb1, hb2, hn0, hn1, hn2, hn3, hB⟩ := hS'
                   have c0_0 := hb0.cell 0
                   have c1_0 := hb1.cell 0
                   have c2_0 := hb2.cell 0
                   go_simp
                   first
                     | exact ⟨rfl, Below.refl _ _⟩
                 simp only [Act.put, List.setIfInBounds_toArray, List.set_cons_zero, List.set_cons_succ])
            refine Way.done (by kernel_rfl) (fun wE hS => ?_)
            have hS' := (SB_38.out _).1 hS
            obtain ⟨hb0, hb1, hb2, hn0, hn1, hn2, hn3, hB⟩ := hS'
            have c0_0 := hb0.cell 0
            have c1_0 := hb1.cell 0
            have c2_0 := hb2.cell 0
            clear hS
            go_wp2_with fail
            go_meet
            exact ⟨_, _, _, _, _, _, _, _, rfl, rfl, rfl, hb0, hb1, hb2, hn0, hn2, hn3, hB⟩
        · have hS' := (SB_29.out _).1 hS
          obtain ⟨hb0, ⟨u1_0, hb1⟩, hn0, hB⟩ := hS'
          have c0_0 := hb0.cell 0
          have c1_0 := hb1.cell 0
          have lt_V9_0 := hb0.lt
          have lt_V9_1 := hb1.lt
          have leB_V9 := Nat.le_trans SBL hB.size
          go_simp
          obtain ⟨S_39, SB_39⟩ : ∃ S_39 : World → Prop, Go.RowKit.Hid (∀ x : World, S_39 x ↔ (Blk x w2.heap.size 42 #[.slice A4 n4 c4] ∧ (∃ u0, Blk x V8.heap.size 42 #[u0]) ∧ (∃ u0, Blk x V9.heap.size 42 #[u0]) ∧ NatL x A4 n4 c4 (W64 * hi + lo) ∧ Below w.heap.size w x)) := ⟨_, Lib.hid (fun _ => Iff.rfl)⟩
          have hst : Stays S_39 := fun W W' h hb => by obtain ⟨hb0, ⟨u1_0, hb1⟩, ⟨u2_0, hb2⟩, hn0, hB⟩ := (SB_39.out _).1 h; exact (SB_39.out _).2 ⟨hb0.st hb, ⟨u1_0, hb1.st hb⟩, ⟨u2_0, hb2.st hb⟩, hn0.below hb, hB.trans (hb.mono (Nat.le_trans SBL hB.size))⟩
          have hle : ∀ x, S_39 x → S_29 x := fun x h => by obtain ⟨hb0, ⟨u1_0, hb1⟩, ⟨u2_0, hb2⟩, hn0, hB⟩ := (SB_39.out _).1 h; exact (SB_29.out _).2 ⟨hb0, ⟨u1_0, hb1⟩, hn0, hB⟩
          refine Moved.keep S_39 hst hle ((SB_39.out _).2 ⟨hb0.alloc _, ⟨u1_0, hb1.alloc _⟩, ⟨_, Blk.new V9 _ _⟩, hn0.below (below_new _ _), hB.alloc (Nat.le_trans SBL hB.size) _⟩) ?_
          clear hst hle
          try simp only [Act.put, List.setIfInBounds_toArray, List.set_cons_zero, List.set_cons_succ]
          refine Way.move 2 (by rfl) (by kernel_rfl) (by rfl) (fun V5 hS => ?_)
          have hS' := (SB_39.out _).1 hS
          obtain ⟨hb0, ⟨u1_0, hb1⟩, ⟨u2_0, hb2⟩, hn0, hB⟩ := hS'
          have c0_0 := hb0.cell 0
          have c1_0 := hb1.cell 0
          have c2_0 := hb2.cell 0
          go_simp
          with_reducible refine (of_any d _ HD.out).mono ?_
          rintro e w5 ⟨A5, n5, c5, rfl, hl, hb⟩
          refine ⟨_, rfl, ?_⟩
          obtain ⟨S_40, SB_40⟩ : ∃ S_40 : World → Prop, Go.RowKit.Hid (∀ x : World, S_40 x ↔ (Blk x w2.heap.size 42 #[.slice A4 n4 c4] ∧ (∃ u0, Blk x V8.heap.size 42 #[u0]) ∧ (∃ u0, Blk x V9.heap.size 42 #[u0]) ∧ NatL x A4 n4 c4 (W64 * hi + lo) ∧ NatL x A5 n5 c5 (d) ∧ Below w.heap.size w x)) := ⟨_, Lib.hid (fun _ => Iff.rfl)⟩
          have hst : Stays S_40 := fun W W' h hb => by obtain ⟨hb0, ⟨u1_0, hb1⟩, ⟨u2_0, hb2⟩, hn0, hn1, hB⟩ := (SB_40.out _).1 h; exact (SB_40.out _).2 ⟨hb0.st hb, ⟨u1_0, hb1.st hb⟩, ⟨u2_0, hb2.st hb⟩, hn0.below hb, hn1.below hb, hB.trans (hb.mono (Nat.le_trans SBL hB.size))⟩
          have hle : ∀ x, S_40 x → S_39 x := fun x h => by obtain ⟨hb0, ⟨u1_0, hb1⟩, ⟨u2_0, hb2⟩, hn0, hn1, hB⟩ := (SB_40.out _).1 h; exact (SB_39.out _).2 ⟨hb0, ⟨u1_0, hb1⟩, ⟨u2_0, hb2⟩, hn0, hB⟩
          refine Moved.keep S_40 hst hle ((SB_40.out _).2 ⟨hb0.st hb, ⟨u1_0, hb1.st hb⟩, ⟨u2_0, hb2.st hb⟩, hn0.below hb, hl, hB.trans (hb.mono (Nat.le_trans SBL hB.size))⟩) ?_
          clear hst hle
          try simp only [Act.put, List.setIfInBounds_toArray, List.set_cons_zero, List.set_cons_succ]
          refine Way.move 3 (by rfl) (by kernel_rfl) (by rfl) (fun V6 hS => ?_)
          have hS' := (SB_40.out _).1 hS
          obtain ⟨hb0, ⟨u1_0, hb1⟩, ⟨u2_0, hb2⟩, hn0, hn1, hB⟩ := hS'
          have c0_0 := hb0.cell 0
          have c1_0 := hb1.cell 0
          have c2_0 := hb2.cell 0
          go_simp
          with_reducible refine (div_nat _ _ _ _ _ hn0.w hn1.w (Nat.le_trans (small128 HN.out) (by decide)) (Nat.le_trans (blen_le64 HD.out) (by decide)) HD0.out).mono ?_
          rintro e w6 ⟨A6, n6, c6, A7, n7, c7, rfl, hl, hl1, hb⟩
          refine ⟨_, rfl, ?_⟩
          obtain ⟨S_41, SB_41⟩ : ∃ S_41 : World → Prop, Go.RowKit.Hid (∀ x : World, S_41 x ↔ (Blk x w2.heap.size 42 #[.slice A4 n4 c4] ∧ (∃ u0, Blk x V8.heap.size 42 #[u0]) ∧ (∃ u0, Blk x V9.heap.size 42 #[u0]) ∧ NatL x A4 n4 c4 (W64 * hi + lo) ∧ NatL x A5 n5 c5 (d) ∧ NatL x A6 n6 c6 ((W64 * hi + lo) / d) ∧ NatL x A7 n7 c7 ((W64 * hi + lo) % d) ∧ Below w.heap.size w x)) := ⟨_, Lib.hid (fun _ => Iff.rfl)⟩
          have hst : Stays S_41 := fun W W' h hb => by obtain ⟨hb0, ⟨u1_0, hb1⟩, ⟨u2_0, hb2⟩, hn0, hn1, hn2, hn3, hB⟩ := (SB_41.out _).1 h; exact (SB_41.out _).2 ⟨hb0.st hb, ⟨u1_0, hb1.st hb⟩, ⟨u2_0, hb2.st hb⟩, hn0.below hb, hn1.below hb, hn2.below hb, hn3.below hb, hB.trans (hb.mono (Nat.le_trans SBL hB.size))⟩
          have hle : ∀ x, S_41 x → S_40 x := fun x h => by obtain ⟨hb0, ⟨u1_0, hb1⟩, ⟨u2_0, hb2⟩, hn0, hn1, hn2, hn3, hB⟩ := (SB_41.out _).1 h; exact (SB_40.out _).2 ⟨hb0, ⟨u1_0, hb1⟩, ⟨u2_0, hb2⟩, hn0, hn1, hB⟩
          refine Moved.keep S_41 hst hle ((SB_41.out _).2 ⟨hb0.st hb, ⟨u1_0, hb1.st hb⟩, ⟨u2_0, hb2.st hb⟩, hn0.below hb, hn1.below hb, hl, hl1, hB.trans (hb.mono (Nat.le_trans SBL hB.size))⟩) ?_
          clear hst hle
          try simp only [Act.put, List.setIfInBounds_toArray, List.set_cons_zero, List.set_cons_succ]
          first
            | (refine Way.no 4 (by rfl) (by kernel_rfl) (by rfl) ?_; simp only [Act.put, List.setIfInBounds_toArray, List.set_cons_zero, List.set_cons_succ])
            | (refine' Way.yes 4 (by rfl) (by kernel_rfl) (by rfl) (fun wS hS => ?_) ?_
               rotate_left
               · have hS' := (SB_41.out _).1 hS
                 obtain ⟨hb0, ⟨u1_0, hb1⟩, ⟨u2_0, hb2⟩, hn0, hn1, hn2, hn3, hB⟩ := hS'
                 have c0_0 := hb0.cell 0
                 have c1_0 := hb1.cell 0
                 have c2_0 := hb2.cell 0
                 go_simp
                 first
                   | exact ⟨rfl, Below.refl _ _⟩
               simp only [Act.put, List.setIfInBounds_toArray, List.set_cons_zero, List.set_cons_succ])
          first
            | (refine Way.no 5 (by rfl) (by kernel_rfl) (by rfl) ?_; simp only [Act.put, List.setIfInBounds_toArray, List.set_cons_zero, List.set_cons_succ])
            | (refine' Way.yes 5 (by rfl) (by kernel_rfl) (by rfl) (fun wS hS => ?_) ?_
               rotate_left
               · have hS' := (SB_41.out _).1 hS
                 obtain ⟨hb0, ⟨u1_0, hb1⟩, ⟨u2_0, hb2⟩, hn0, hn1, hn2, hn3, hB⟩ := hS'
                 have c0_0 := hb0.cell 0
                 have c1_0 := hb1.cell 0
                 have c2_0 := hb2.cell 0
                 go_simp
                 first
                   | exact ⟨rfl, Below.refl _ _⟩
               simp only [Act.put, List.setIfInBounds_toArray, List.set_cons_zero, List.set_cons_succ])
          first
            | (refine Way.no 6 (by rfl) (by kernel_rfl) (by rfl) ?_; simp only [Act.put, List.setIfInBounds_toArray, List.set_cons_zero, List.set_cons_succ])
            | (refine' Way.yes 6 (by rfl) (by kernel_rfl) (by rfl) (fun wS hS => ?_) ?_
               rotate_left
               · have hS' := (SB_41.out _).1 hS
                 obtain ⟨hb0, ⟨u1_0, hb1⟩, ⟨u2_0, hb2⟩, hn0, hn1, hn2, hn3, hB⟩ := hS'
                 have c0_0 := hb0.cell 0
                 have c1_0 := hb1.cell 0
                 have c2_0 := hb2.cell 0
                 go_simp
                 first
                   | exact ⟨rfl, Below.refl _ _⟩
               simp only [Act.put, List.setIfInBounds_toArray, List.set_cons_zero, List.set_cons_succ])
          first
            | (refine Way.no 7 (by rfl) (by kernel_rfl) (by rfl) ?_; simp only [Act.put, List.setIfInBounds_toArray, List.set_cons_zero, List.set_cons_succ])
            | (refine' Way.yes 7 (by rfl) (by kernel_rfl) (by rfl) (fun wS hS => ?_) ?_
               rotate_left
               · have hS' := (SB_41.out _).1 hS
                 obtain ⟨hb0, ⟨u1_0, hb1⟩, ⟨u2_0, hb2⟩, hn0, hn1, hn2, hn3, hB⟩ := hS'
                 have c0_0 := hb0.cell 0
                 have c1_0 := hb1.cell 0
                 have c2_0 := hb2.cell 0
                 go_simp
                 first
                   | exact ⟨rfl, Below.refl _ _⟩
               simp only [Act.put, List.setIfInBounds_toArray, List.set_cons_zero, List.set_cons_succ])
          refine Way.move 10 (by rfl) (by kernel_rfl) (by rfl) (fun wS hS => ?_)
          have hS' := (SB_41.out _).1 hS
          obtain ⟨hb0, ⟨u1_0, hb1⟩, ⟨u2_0, hb2⟩, hn0, hn1, hn2, hn3, hB⟩ := hS'
          have c0_0 := hb0.cell 0
          have c1_0 := hb1.cell 0
          have c2_0 := hb2.cell 0
          have f1_0 := hb1.frozen 0
          go_simp
          obtain ⟨S_42, SB_42⟩ : ∃ S_42 : World → Prop, Go.RowKit.Hid (∀ x : World, S_42 x ↔ (Blk x w2.heap.size 42 #[.slice A4 n4 c4] ∧ Blk x V8.heap.size 42 #[.slice A6 n6 c6] ∧ (∃ u0, Blk x V9.heap.size 42 #[u0]) ∧ NatL x A4 n4 c4 (W64 * hi + lo) ∧ NatL x A5 n5 c5 (d) ∧ NatL x A6 n6 c6 ((W64 * hi + lo) / d) ∧ NatL x A7 n7 c7 ((W64 * hi + lo) % d) ∧ Below w.heap.size w x)) := ⟨_, Lib.hid (fun _ => Iff.rfl)⟩
          have hst : Stays S_42 := fun W W' h hb => by obtain ⟨hb0, hb1, ⟨u2_0, hb2⟩, hn0, hn1, hn2, hn3, hB⟩ := (SB_42.out _).1 h; exact (SB_42.out _).2 ⟨hb0.st hb, hb1.st hb, ⟨u2_0, hb2.st hb⟩, hn0.below hb, hn1.below hb, hn2.below hb, hn3.below hb, hB.trans (hb.mono (Nat.le_trans SBL hB.size))⟩
          have hle : ∀ x, S_42 x → S_41 x := fun x h => by obtain ⟨hb0, hb1, ⟨u2_0, hb2⟩, hn0, hn1, hn2, hn3, hB⟩ := (SB_42.out _).1 h; exact (SB_41.out _).2 ⟨hb0, ⟨_, hb1⟩, ⟨_, hb2⟩, hn0, hn1, hn2, hn3, hB⟩
          refine Moved.keep S_42 hst hle ((SB_42.out _).2 ⟨(hb0.far (by first | (simp; done) | (simp; omega)) _), (hb1.set1 0 _), ⟨u2_0, (hb2.far (by first | (simp; done) | (simp; omega)) _)⟩, (hn0.set hb1 (by decide) _), (hn1.set hb1 (by decide) _), (hn2.set hb1 (by decide) _), (hn3.set hb1 (by decide) _), (hB.setCell (by first | (simp; done) | (simp; omega)) _)⟩) ?_
          clear hst hle
          try simp only [Act.put, List.setIfInBounds_toArray, List.set_cons_zero, List.set_cons_succ]
          refine Way.move 11 (by rfl) (by kernel_rfl) (by rfl) (fun wS hS => ?_)
          have hS' := (SB_42.out _).1 hS
          obtain ⟨hb0, hb1, ⟨u2_0, hb2⟩, hn0, hn1, hn2, hn3, hB⟩ := hS'
          have c0_0 := hb0.cell 0
          have c1_0 := hb1.cell 0
          have c2_0 := hb2.cell 0
          have f2_0 := hb2.frozen 0
          go_simp
          obtain ⟨S_43, SB_43⟩ : ∃ S_43 : World → Prop, Go.RowKit.Hid (∀ x : World, S_43 x ↔ (Blk x w2.heap.size 42 #[.slice A4 n4 c4] ∧ Blk x V8.heap.size 42 #[.slice A6 n6 c6] ∧ Blk x V9.heap.size 42 #[.slice A7 n7 c7] ∧ NatL x A4 n4 c4 (W64 * hi + lo) ∧ NatL x A5 n5 c5 (d) ∧ NatL x A6 n6 c6 ((W64 * hi + lo) / d) ∧ NatL x A7 n7 c7 ((W64 * hi + lo) % d) ∧ Below w.heap.size w x)) := ⟨_, Lib.hid (fun _ => Iff.rfl)⟩
          have hst : Stays S_43 := fun W W' h hb => by obtain ⟨hb0, hb1, hb2, hn0, hn1, hn2, hn3, hB⟩ := (SB_43.out _).1 h; exact (SB_43.out _).2 ⟨hb0.st hb, hb1.st hb, hb2.st hb, hn0.below hb, hn1.below hb, hn2.below hb, hn3.below hb, hB.trans (hb.mono (Nat.le_trans SBL hB.size))⟩
          have hle : ∀ x, S_43 x → S_42 x := fun x h => by obtain ⟨hb0, hb1, hb2, hn0, hn1, hn2, hn3, hB⟩ := (SB_43.out _).1 h; exact (SB_42.out _).2 ⟨hb0, hb1, ⟨_, hb2⟩, hn0, hn1, hn2, hn3, hB⟩
          refine Moved.keep S_43 hst hle ((SB_43.out _).2 ⟨(hb0.far (by first | (simp; done) | (simp; omega)) _), (hb1.far (by first | (simp; done) | (simp; omega)) _), (hb2.set1 0 _), (hn0.set hb2 (by decide) _), (hn1.set hb2 (by decide) _), (hn2.set hb2 (by decide) _), (hn3.set hb2 (by decide) _), (hB.setCell (by first | (simp; done) | (simp; omega)) _)⟩) ?_
          clear hst hle
          try simp only [Act.put, List.setIfInBounds_toArray, List.set_cons_zero, List.set_cons_succ]
          first
            | (refine Way.no 12 (by rfl) (by kernel_rfl) (by rfl) ?_; simp only [Act.put, List.setIfInBounds_toArray, List.set_cons_zero, List.set_cons_succ])
            | (refine' Way.yes 12 (by rfl) (by kernel_rfl) (by rfl) (fun wS hS => ?_) ?_
               rotate_left
               · have hS' := (SB_43.out _).1 hS
                 obtain ⟨hb0, hb1, hb2, hn0, hn1, hn2, hn3, hB⟩ := hS'
                 have c0_0 := hb0.cell 0
                 have c1_0 := hb1.cell 0
                 have c2_0 := hb2.cell 0
                 go_simp
                 first
                   | exact ⟨rfl, Below.refl _ _⟩
               simp only [Act.put, List.setIfInBounds_toArray, List.set_cons_zero, List.set_cons_succ])
          refine Way.done (by kernel_rfl) (fun wE hS => ?_)
          have hS' := (SB_43.out _).1 hS
          obtain ⟨hb0, hb1, hb2, hn0, hn1, hn2, hn3, hB⟩ := hS'
          have c0_0 := hb0.cell 0
          have c1_0 := hb1.cell 0
          have c2_0 := hb2.cell 0
          clear hS
          go_wp2_with fail
          go_meet
          exact ⟨_, _, _, _, _, _, _, _, rfl, rfl, rfl, hb0, hb1, hb2, hn0, hn2, hn3, hB⟩
      · have hS' := (SB.out _).1 hS
        obtain ⟨hb0, hn0, hB⟩ := hS'
        have c0_0 := hb0.cell 0
        have lt_V9_0 := hb0.lt
        have leB_V9 := Nat.le_trans SBL hB.size
        go_simp
        obtain ⟨S_44, SB_44⟩ : ∃ S_44 : World → Prop, Go.RowKit.Hid (∀ x : World, S_44 x ↔ (Blk x w2.heap.size 42 #[.slice A4 n4 c4] ∧ (∃ u0, Blk x V9.heap.size 42 #[u0]) ∧ NatL x A4 n4 c4 (W64 * hi + lo) ∧ Below w.heap.size w x)) := ⟨_, Lib.hid (fun _ => Iff.rfl)⟩
        have hst : Stays S_44 := fun W W' h hb => by obtain ⟨hb0, ⟨u1_0, hb1⟩, hn0, hB⟩ := (SB_44.out _).1 h; exact (SB_44.out _).2 ⟨hb0.st hb, ⟨u1_0, hb1.st hb⟩, hn0.below hb, hB.trans (hb.mono (Nat.le_trans SBL hB.size))⟩
        have hle : ∀ x, S_44 x → S x := fun x h => by obtain ⟨hb0, ⟨u1_0, hb1⟩, hn0, hB⟩ := (SB_44.out _).1 h; exact (SB.out _).2 ⟨hb0, hn0, hB⟩
        refine Moved.keep S_44 hst hle ((SB_44.out _).2 ⟨hb0.alloc _, ⟨_, Blk.new V9 _ _⟩, hn0.below (below_new _ _), hB.alloc (Nat.le_trans SBL hB.size) _⟩) ?_
        clear hst hle
        try simp only [Act.put, List.setIfInBounds_toArray, List.set_cons_zero, List.set_cons_succ]
        refine Way.move2 2 8 (by rfl) (by rfl) (by kernel_rfl) (by rfl) (by rfl) (fun V5 hS => ?_) (fun V8 hS => ?_)
        · have hS' := (SB_44.out _).1 hS
          obtain ⟨hb0, ⟨u1_0, hb1⟩, hn0, hB⟩ := hS'
          have c0_0 := hb0.cell 0
          have c1_0 := hb1.cell 0
          go_simp
          with_reducible refine (of_any d _ HD.out).mono ?_
          rintro e w5 ⟨A5, n5, c5, rfl, hl, hb⟩
          refine ⟨_, rfl, ?_⟩
          obtain ⟨S_45, SB_45⟩ : ∃ S_45 : World → Prop, Go.RowKit.Hid (∀ x : World, S_45 x ↔ (Blk x w2.heap.size 42 #[.slice A4 n4 c4] ∧ (∃ u0, Blk x V9.heap.size 42 #[u0]) ∧ NatL x A4 n4 c4 (W64 * hi + lo) ∧ NatL x A5 n5 c5 (d) ∧ Below w.heap.size w x)) := ⟨_, Lib.hid (fun _ => Iff.rfl)⟩
          have hst : Stays S_45 := fun W W' h hb => by obtain ⟨hb0, ⟨u1_0, hb1⟩, hn0, hn1, hB⟩ := (SB_45.out _).1 h; exact (SB_45.out _).2 ⟨hb0.st hb, ⟨u1_0, hb1.st hb⟩, hn0.below hb, hn1.below hb, hB.trans (hb.mono (Nat.le_trans SBL hB.size))⟩
          have hle : ∀ x, S_45 x → S_44 x := fun x h => by obtain ⟨hb0, ⟨u1_0, hb1⟩, hn0, hn1, hB⟩ := (SB_45.out _).1 h; exact (SB_44.out _).2 ⟨hb0, ⟨u1_0, hb1⟩, hn0, hB⟩
          refine Moved.keep S_45 hst hle ((SB_45.out _).2 ⟨hb0.st hb, ⟨u1_0, hb1.st hb⟩, hn0.below hb, hl, hB.trans (hb.mono (Nat.le_trans SBL hB.size))⟩) ?_
          clear hst hle
          try simp only [Act.put, List.setIfInBounds_toArray, List.set_cons_zero, List.set_cons_succ]
          refine Way.move2 3 8 (by rfl) (by rfl) (by kernel_rfl) (by rfl) (by rfl) (fun V6 hS => ?_) (fun V8 hS => ?_)
          · have hS' := (SB_45.out _).1 hS
            obtain ⟨hb0, ⟨u1_0, hb1⟩, hn0, hn1, hB⟩ := hS'
            have c0_0 := hb0.cell 0
            have c1_0 := hb1.cell 0
            go_simp
            with_reducible refine (div_nat _ _ _ _ _ hn0.w hn1.w (Nat.le_trans (small128 HN.out) (by decide)) (Nat.le_trans (blen_le64 HD.out) (by decide)) HD0.out).mono ?_
            rintro e w6 ⟨A6, n6, c6, A7, n7, c7, rfl, hl, hl1, hb⟩
            refine ⟨_, rfl, ?_⟩
            obtain ⟨S_46, SB_46⟩ : ∃ S_46 : World → Prop, Go.RowKit.Hid (∀ x : World, S_46 x ↔ (Blk x w2.heap.size 42 #[.slice A4 n4 c4] ∧ (∃ u0, Blk x V9.heap.size 42 #[u0]) ∧ NatL x A4 n4 c4 (W64 * hi + lo) ∧ NatL x A5 n5 c5 (d) ∧ NatL x A6 n6 c6 ((W64 * hi + lo) / d) ∧ NatL x A7 n7 c7 ((W64 * hi + lo) % d) ∧ Below w.heap.size w x)) := ⟨_, Lib.hid (fun _ => Iff.rfl)⟩
            have hst : Stays S_46 := fun W W' h hb => by obtain ⟨hb0, ⟨u1_0, hb1⟩, hn0, hn1, hn2, hn3, hB⟩ := (SB_46.out _).1 h; exact (SB_46.out _).2 ⟨hb0.st hb, ⟨u1_0, hb1.st hb⟩, hn0.below hb, hn1.below hb, hn2.below hb, hn3.below hb, hB.trans (hb.mono (Nat.le_trans SBL hB.size))⟩
            have hle : ∀ x, S_46 x → S_45 x := fun x h => by obtain ⟨hb0, ⟨u1_0, hb1⟩, hn0, hn1, hn2, hn3, hB⟩ := (SB_46.out _).1 h; exact (SB_45.out _).2 ⟨hb0, ⟨u1_0, hb1⟩, hn0, hn1, hB⟩
            refine Moved.keep S_46 hst hle ((SB_46.out _).2 ⟨hb0.st hb, ⟨u1_0, hb1.st hb⟩, hn0.below hb, hn1.below hb, hl, hl1, hB.trans (hb.mono (Nat.le_trans SBL hB.size))⟩) ?_
            clear hst hle
            try simp only [Act.put, List.setIfInBounds_toArray, List.set_cons_zero, List.set_cons_succ]
            first
              | (refine Way.no 4 (by rfl) (by kernel_rfl) (by rfl) ?_; simp only [Act.put, List.setIfInBounds_toArray, List.set_cons_zero, List.set_cons_succ])
              | (refine' Way.yes 4 (by rfl) (by kernel_rfl) (by rfl) (fun wS hS => ?_) ?_
                 rotate_left
                 · have hS' := (SB_46.out _).1 hS
                   obtain ⟨hb0, ⟨u1_0, hb1⟩, hn0, hn1, hn2, hn3, hB⟩ := hS'
                   have c0_0 := hb0.cell 0
                   have c1_0 := hb1.cell 0
                   go_simp
                   first
                     | exact ⟨rfl, Below.refl _ _⟩
                 simp only [Act.put, List.setIfInBounds_toArray, List.set_cons_zero, List.set_cons_succ])
            first
              | (refine Way.no 5 (by rfl) (by kernel_rfl) (by rfl) ?_; simp only [Act.put, List.setIfInBounds_toArray, List.set_cons_zero, List.set_cons_succ])
              | (refine' Way.yes 5 (by rfl) (by kernel_rfl) (by rfl) (fun wS hS => ?_) ?_
                 rotate_left
                 · have hS' := (SB_46.out _).1 hS
                   obtain ⟨hb0, ⟨u1_0, hb1⟩, hn0, hn1, hn2, hn3, hB⟩ := hS'
                   have c0_0 := hb0.cell 0
                   have c1_0 := hb1.cell 0
                   go_simp
                   first
                     | exact ⟨rfl, Below.refl _ _⟩
                 simp only [Act.put, List.setIfInBounds_toArray, List.set_cons_zero, List.set_cons_succ])
            first
              | (refine Way.no 6 (by rfl) (by kernel_rfl) (by rfl) ?_; simp only [Act.put, List.setIfInBounds_toArray, List.set_cons_zero, List.set_cons_succ])
              | (refine' Way.yes 6 (by rfl) (by kernel_rfl) (by rfl) (fun wS hS => ?_) ?_
                 rotate_left
                 · have hS' := (SB_46.out _).1 hS
                   obtain ⟨hb0, ⟨u1_0, hb1⟩, hn0, hn1, hn2, hn3, hB⟩ := hS'
                   have c0_0 := hb0.cell 0
                   have c1_0 := hb1.cell 0
                   go_simp
                   first
                     | exact ⟨rfl, Below.refl _ _⟩
                 simp only [Act.put, List.setIfInBounds_toArray, List.set_cons_zero, List.set_cons_succ])
            first
              | (refine Way.no 7 (by rfl) (by kernel_rfl) (by rfl) ?_; simp only [Act.put, List.setIfInBounds_toArray, List.set_cons_zero, List.set_cons_succ])
              | (refine' Way.yes 7 (by rfl) (by kernel_rfl) (by rfl) (fun wS hS => ?_) ?_
                 rotate_left
                 · have hS' := (SB_46.out _).1 hS
                   obtain ⟨hb0, ⟨u1_0, hb1⟩, hn0, hn1, hn2, hn3, hB⟩ := hS'
                   have c0_0 := hb0.cell 0
                   have c1_0 := hb1.cell 0
                   go_simp
                   first
                     | exact ⟨rfl, Below.refl _ _⟩
                 simp only [Act.put, List.setIfInBounds_toArray, List.set_cons_zero, List.set_cons_succ])
            refine Way.move 8 (by rfl) (by kernel_rfl) (by rfl) (fun V8 hS => ?_)
            have hS' := (SB_46.out _).1 hS
            obtain ⟨hb0, ⟨u1_0, hb1⟩, hn0, hn1, hn2, hn3, hB⟩ := hS'
            have c0_0 := hb0.cell 0
            have c1_0 := hb1.cell 0
            have lt_V8_0 := hb0.lt
            have lt_V8_1 := hb1.lt
            have leB_V8 := Nat.le_trans SBL hB.size
            go_simp
            obtain ⟨S_47, SB_47⟩ : ∃ S_47 : World → Prop, Go.RowKit.Hid (∀ x : World, S_47 x ↔ (Blk x w2.heap.size 42 #[.slice A4 n4 c4] ∧ (∃ u0, Blk x V9.heap.size 42 #[u0]) ∧ (∃ u0, Blk x V8.heap.size 42 #[u0]) ∧ NatL x A4 n4 c4 (W64 * hi + lo) ∧ NatL x A5 n5 c5 (d) ∧ NatL x A6 n6 c6 ((W64 * hi + lo) / d) ∧ NatL x A7 n7 c7 ((W64 * hi + lo) % d) ∧ Below w.heap.size w x)) := ⟨_, Lib.hid (fun _ => Iff.rfl)⟩
            have hst : Stays S_47 := fun W W' h hb => by obtain ⟨hb0, ⟨u1_0, hb1⟩, ⟨u2_0, hb2⟩, hn0, hn1, hn2, hn3, hB⟩ := (SB_47.out _).1 h; exact (SB_47.out _).2 ⟨hb0.st hb, ⟨u1_0, hb1.st hb⟩, ⟨u2_0, hb2.st hb⟩, hn0.below hb, hn1.below hb, hn2.below hb, hn3.below hb, hB.trans (hb.mono (Nat.le_trans SBL hB.size))⟩
            have hle : ∀ x, S_47 x → S_46 x := fun x h => by obtain ⟨hb0, ⟨u1_0, hb1⟩, ⟨u2_0, hb2⟩, hn0, hn1, hn2, hn3, hB⟩ := (SB_47.out _).1 h; exact (SB_46.out _).2 ⟨hb0, ⟨u1_0, hb1⟩, hn0, hn1, hn2, hn3, hB⟩
            refine Moved.keep S_47 hst hle ((SB_47.out _).2 ⟨hb0.alloc _, ⟨u1_0, hb1.alloc _⟩, ⟨_, Blk.new V8 _ _⟩, hn0.below (below_new _ _), hn1.below (below_new _ _), hn2.below (below_new _ _), hn3.below (below_new _ _), hB.alloc (Nat.le_trans SBL hB.size) _⟩) ?_
            clear hst hle
            try simp only [Act.put, List.setIfInBounds_toArray, List.set_cons_zero, List.set_cons_succ]
            refine Way.move 10 (by rfl) (by kernel_rfl) (by rfl) (fun wS hS => ?_)
            have hS' := (SB_47.out _).1 hS
            obtain ⟨hb0, ⟨u1_0, hb1⟩, ⟨u2_0, hb2⟩, hn0, hn1, hn2, hn3, hB⟩ := hS'
            have c0_0 := hb0.cell 0
            have c1_0 := hb1.cell 0
            have c2_0 := hb2.cell 0
            have f2_0 := hb2.frozen 0
            go_simp
            obtain ⟨S_48, SB_48⟩ : ∃ S_48 : World → Prop, Go.RowKit.Hid (∀ x : World, S_48 x ↔ (Blk x w2.heap.size 42 #[.slice A4 n4 c4] ∧ (∃ u0, Blk x V9.heap.size 42 #[u0]) ∧ Blk x V8.heap.size 42 #[.slice A6 n6 c6] ∧ NatL x A4 n4 c4 (W64 * hi + lo) ∧ NatL x A5 n5 c5 (d) ∧ NatL x A6 n6 c6 ((W64 * hi + lo) / d) ∧ NatL x A7 n7 c7 ((W64 * hi + lo) % d) ∧ Below w.heap.size w x)) := ⟨_, Lib.hid (fun _ => Iff.rfl)⟩
            have hst : Stays S_48 := fun W W' h hb => by obtain ⟨hb0, ⟨u1_0, hb1⟩, hb2, hn0, hn1, hn2, hn3, hB⟩ := (SB_48.out _).1 h; exact (SB_48.out _).2 ⟨hb0.st hb, ⟨u1_0, hb1.st hb⟩, hb2.st hb, hn0.below hb, hn1.below hb, hn2.below hb, hn3.below hb, hB.trans (hb.mono (Nat.le_trans SBL hB.size))⟩
            have hle : ∀ x, S_48 x → S_47 x := fun x h => by obtain ⟨hb0, ⟨u1_0, hb1⟩, hb2, hn0, hn1, hn2, hn3, hB⟩ := (SB_48.out _).1 h; exact (SB_47.out _).2 ⟨hb0, ⟨_, hb1⟩, ⟨_, hb2⟩, hn0, hn1, hn2, hn3, hB⟩
            refine Moved.keep S_48 hst hle ((SB_48.out _).2 ⟨(hb0.far (by first | (simp; done) | (simp; omega)) _), ⟨u1_0, (hb1.far (by first | (simp; done) | (simp; omega)) _)⟩, (hb2.set1 0 _), (hn0.set hb2 (by decide) _), (hn1.set hb2 (by decide) _), (hn2.set hb2 (by decide) _), (hn3.set hb2 (by decide) _), (hB.setCell (by first | (simp; done) | (simp; omega)) _)⟩) ?_
            clear hst hle
            try simp only [Act.put, List.setIfInBounds_toArray, List.set_cons_zero, List.set_cons_succ]
            refine Way.move 11 (by rfl) (by kernel_rfl) (by rfl) (fun wS hS => ?_)
            have hS' := (SB_48.out _).1 hS
            obtain ⟨hb0, ⟨u1_0, hb1⟩, hb2, hn0, hn1, hn2, hn3, hB⟩ := hS'
            have c0_0 := hb0.cell 0
            have c1_0 := hb1.cell 0
            have c2_0 := hb2.cell 0
            have f1_0 := hb1.frozen 0
            go_simp
            obtain ⟨S_49, SB_49⟩ : ∃ S_49 : World → Prop, Go.RowKit.Hid (∀ x : World, S_49 x ↔ (Blk x w2.heap.size 42 #[.slice A4 n4 c4] ∧ Blk x V9.heap.size 42 #[.slice A7 n7 c7] ∧ Blk x V8.heap.size 42 #[.slice A6 n6 c6] ∧ NatL x A4 n4 c4 (W64 * hi + lo) ∧ NatL x A5 n5 c5 (d) ∧ NatL x A6 n6 c6 ((W64 * hi + lo) / d) ∧ NatL x A7 n7 c7 ((W64 * hi + lo) % d) ∧ Below w.heap.size w x)) := ⟨_, Lib.hid (fun _ => Iff.rfl)⟩
            have hst : Stays S_49 := fun W W' h hb => by obtain ⟨hb0, hb1, hb2, hn0, hn1, hn2, hn3, hB⟩ := (SB_49.out _).1 h; exact (SB_49.out _).2 ⟨hb0.st hb, hb1.st hb, hb2.st hb, hn0.below hb, hn1.below hb, hn2.below hb, hn3.below hb, hB.trans (hb.mono (Nat.le_trans SBL hB.size))⟩
            have hle : ∀ x, S_49 x → S_48 x := fun x h => by obtain ⟨hb0, hb1, hb2, hn0, hn1, hn2, hn3, hB⟩ := (SB_49.out _).1 h; exact (SB_48.out _).2 ⟨hb0, ⟨_, hb1⟩, hb2, hn0, hn1, hn2, hn3, hB⟩
            refine Moved.keep S_49 hst hle ((SB_49.out _).2 ⟨(hb0.far (by first | (simp; done) | (simp; omega)) _), (hb1.set1 0 _), (hb2.far (by first | (simp; done) | (simp; omega)) _), (hn0.set hb1 (by decide) _), (hn1.set hb1 (by decide) _), (hn2.set hb1 (by decide) _), (hn3.set hb1 (by decide) _), (hB.setCell (by first | (simp; done) | (simp; omega)) _)⟩) ?_
            clear hst hle
            try simp only [Act.put, List.setIfInBounds_toArray, List.set_cons_zero, List.set_cons_succ]
            first
              | (refine Way.no 12 (by rfl) (by kernel_rfl) (by rfl) ?_; simp only [Act.put, List.setIfInBounds_toArray, List.set_cons_zero, List.set_cons_succ])
              | (refine' Way.yes 12 (by rfl) (by kernel_rfl) (by rfl) (fun wS hS => ?_) ?_
                 rotate_left
                 · have hS' := (SB_49.out _).1 hS
                   obtain ⟨hb0, hb1, hb2, hn0, hn1, hn2, hn3, hB⟩ := hS'
                   have c0_0 := hb0.cell 0
                   have c1_0 := hb1.cell 0
                   have c2_0 := hb2.cell 0
                   go_simp
                   first
                     | exact ⟨rfl, Below.refl _ _⟩
                 simp only [Act.put, List.setIfInBounds_toArray, List.set_cons_zero, List.set_cons_succ])
            refine Way.done (by kernel_rfl) (fun wE hS => ?_)
            have hS' := (SB_49.out _).1 hS
            obtain ⟨hb0, hb1, hb2, hn0, hn1, hn2, hn3, hB⟩ := hS'
            have c0_0 := hb0.cell 0
            have c1_0 := hb1.cell 0
            have c2_0 := hb2.cell 0
            clear hS
            go_wp2_with fail
            go_meet
            exact ⟨_, _, _, _, _, _, _, _, rfl, rfl, rfl, hb0, hb2, hb1, hn0, hn2, hn3, hB⟩
          · have hS' := (SB_45.out _).1 hS
            obtain ⟨hb0, ⟨u1_0, hb1⟩, hn0, hn1, hB⟩ := hS'
            have c0_0 := hb0.cell 0
            have c1_0 := hb1.cell 0
            have lt_V8_0 := hb0.lt
            have lt_V8_1 := hb1.lt
            have leB_V8 := Nat.le_trans SBL hB.size
            go_simp
            obtain ⟨S_50, SB_50⟩ : ∃ S_50 : World → Prop, Go.RowKit.Hid (∀ x : World, S_50 x ↔ (Blk x w2.heap.size 42 #[.slice A4 n4 c4] ∧ (∃ u0, Blk x V9.heap.size 42 #[u0]) ∧ (∃ u0, Blk x V8.heap.size 42 #[u0]) ∧ NatL x A4 n4 c4 (W64 * hi + lo) ∧ NatL x A5 n5 c5 (d) ∧ Below w.heap.size w x)) := ⟨_, Lib.hid (fun _ => Iff.rfl)⟩
            have hst : Stays S_50 := fun W W' h hb => by obtain ⟨hb0, ⟨u1_0, hb1⟩, ⟨u2_0, hb2⟩, hn0, hn1, hB⟩ := (SB_50.out _).1 h; exact (SB_50.out _).2 ⟨hb0.st hb, ⟨u1_0, hb1.st hb⟩, ⟨u2_0, hb2.st hb⟩, hn0.below hb, hn1.below hb, hB.trans (hb.mono (Nat.le_trans SBL hB.size))⟩
            have hle : ∀ x, S_50 x → S_45 x := fun x h => by obtain ⟨hb0, ⟨u1_0, hb1⟩, ⟨u2_0, hb2⟩, hn0, hn1, hB⟩ := (SB_50.out _).1 h; exact (SB_45.out _).2 ⟨hb0, ⟨u1_0, hb1⟩, hn0, hn1, hB⟩
            refine Moved.keep S_50 hst hle ((SB_50.out _).2 ⟨hb0.alloc _, ⟨u1_0, hb1.alloc _⟩, ⟨_, Blk.new V8 _ _⟩, hn0.below (below_new _ _), hn1.below (below_new _ _), hB.alloc (Nat.le_trans SBL hB.size) _⟩) ?_
            clear hst hle
            try simp only [Act.put, List.setIfInBounds_toArray, List.set_cons_zero, List.set_cons_succ]
            refine Way.move 3 (by rfl) (by kernel_rfl) (by rfl) (fun V6 hS => ?_)
            have hS' := (SB_50.out _).1 hS
            obtain ⟨hb0, ⟨u1_0, hb1⟩, ⟨u2_0, hb2⟩, hn0, hn1, hB⟩ := hS'
            have c0_0 := hb0.cell 0
            have c1_0 := hb1.cell 0
            have c2_0 := hb2.cell 0
            go_simp
            with_reducible refine (div_nat _ _ _ _ _ hn0.w hn1.w (Nat.le_trans (small128 HN.out) (by decide)) (Nat.le_trans (blen_le64 HD.out) (by decide)) HD0.out).mono ?_
            rintro e w6 ⟨A6, n6, c6, A7, n7, c7, rfl, hl, hl1, hb⟩
            refine ⟨_, rfl, ?_⟩
            obtain ⟨S_51, SB_51⟩ : ∃ S_51 : World → Prop, Go.RowKit.Hid (∀ x : World, S_51 x ↔ (Blk x w2.heap.size 42 #[.slice A4 n4 c4] ∧ (∃ u0, Blk x V9.heap.size 42 #[u0]) ∧ (∃ u0, Blk x V8.heap.size 42 #[u0]) ∧ NatL x A4 n4 c4 (W64 * hi + lo) ∧ NatL x A5 n5 c5 (d) ∧ NatL x A6 n6 c6 ((W64 * hi + lo) / d) ∧ NatL x A7 n7 c7 ((W64 * hi + lo) % d) ∧ Below w.heap.size w x)) := ⟨_, Lib.hid (fun _ => Iff.rfl)⟩
            have hst : Stays S_51 := fun W W' h hb => by obtain ⟨hb0, ⟨u1_0, hb1⟩, ⟨u2_0, hb2⟩, hn0, hn1, hn2, hn3, hB⟩ := (SB_51.out _).1 h; exact (SB_51.out _).2 ⟨hb0.st hb, ⟨u1_0, hb1.st hb⟩, ⟨u2_0, hb2.st hb⟩, hn0.below hb, hn1.below hb, hn2.below hb, hn3.below hb, hB.trans (hb.mono (Nat.le_trans SBL hB.size))⟩
            have hle : ∀ x, S_51 x → S_50 x := fun x h => by obtain ⟨hb0, ⟨u1_0, hb1⟩, ⟨u2_0, hb2⟩, hn0, hn1, hn2, hn3, hB⟩ := (SB_51.out _).1 h; exact (SB_50.out _).2 ⟨hb0, ⟨u1_0, hb1⟩, ⟨u2_0, hb2⟩, hn0, hn1, hB⟩
            refine Moved.keep S_51 hst hle ((SB_51.out _).2 ⟨hb0.st hb, ⟨u1_0, hb1.st hb⟩, ⟨u2_0, hb2.st hb⟩, hn0.below hb, hn1.below hb, hl, hl1, hB.trans (hb.mono (Nat.le_trans SBL hB.size))⟩) ?_
            clear hst hle
            try simp only [Act.put, List.setIfInBounds_toArray, List.set_cons_zero, List.set_cons_succ]
            first
              | (refine Way.no 4 (by rfl) (by kernel_rfl) (by rfl) ?_; simp only [Act.put, List.setIfInBounds_toArray, List.set_cons_zero, List.set_cons_succ])
              | (refine' Way.yes 4 (by rfl) (by kernel_rfl) (by rfl) (fun wS hS => ?_) ?_
                 rotate_left
                 · have hS' := (SB_51.out _).1 hS
                   obtain ⟨hb0, ⟨u1_0, hb1⟩, ⟨u2_0, hb2⟩, hn0, hn1, hn2, hn3, hB⟩ := hS'
                   have c0_0 := hb0.cell 0
                   have c1_0 := hb1.cell 0
                   have c2_0 := hb2.cell 0
                   go_simp
                   first
                     | exact ⟨rfl, Below.refl _ _⟩
                 simp only [Act.put, List.setIfInBounds_toArray, List.set_cons_zero, List.set_cons_succ])
            first
              | (refine Way.no 5 (by rfl) (by kernel_rfl) (by rfl) ?_; simp only [Act.put, List.setIfInBounds_toArray, List.set_cons_zero, List.set_cons_succ])
              | (refine' Way.yes 5 (by rfl) (by kernel_rfl) (by rfl) (fun wS hS => ?_) ?_
                 rotate_left
                 · have hS' := (SB_51.out _).1 hS
                   obtain ⟨hb0, ⟨u1_0, hb1⟩, ⟨u2_0, hb2⟩, hn0, hn1, hn2, hn3, hB⟩ := hS'
                   have c0_0 := hb0.cell 0
                   have c1_0 := hb1.cell 0
                   have c2_0 := hb2.cell 0
                   go_simp
                   first
                     | exact ⟨rfl, Below.refl _ _⟩
                 simp only [Act.put, List.setIfInBounds_toArray, List.set_cons_zero, List.set_cons_succ])
            first
              | (refine Way.no 6 (by rfl) (by kernel_rfl) (by rfl) ?_; simp only [Act.put, List.setIfInBounds_toArray, List.set_cons_zero, List.set_cons_succ])
              | (refine' Way.yes 6 (by rfl) (by kernel_rfl) (by rfl) (fun wS hS => ?_) ?_
                 rotate_left
                 · have hS' := (SB_51.out _).1 hS
                   obtain ⟨hb0, ⟨u1_0, hb1⟩, ⟨u2_0, hb2⟩, hn0, hn1, hn2, hn3, hB⟩ := hS'
                   have c0_0 := hb0.cell 0
                   have c1_0 := hb1.cell 0
                   have c2_0 := hb2.cell 0
                   go_simp
                   first
                     | exact ⟨rfl, Below.refl _ _⟩
                 simp only [Act.put, List.setIfInBounds_toArray, List.set_cons_zero, List.set_cons_succ])
            first
              | (refine Way.no 7 (by rfl) (by kernel_rfl) (by rfl) ?_; simp only [Act.put, List.setIfInBounds_toArray, List.set_cons_zero, List.set_cons_succ])
              | (refine' Way.yes 7 (by rfl) (by kernel_rfl) (by rfl) (fun wS hS => ?_) ?_
                 rotate_left
                 · have hS' := (SB_51.out _).1 hS
                   obtain ⟨hb0, ⟨u1_0, hb1⟩, ⟨u2_0, hb2⟩, hn0, hn1, hn2, hn3, hB⟩ := hS'
                   have c0_0 := hb0.cell 0
                   have c1_0 := hb1.cell 0
                   have c2_0 := hb2.cell 0
                   go_simp
                   first
                     | exact ⟨rfl, Below.refl _ _⟩
                 simp only [Act.put, List.setIfInBounds_toArray, List.set_cons_zero, List.set_cons_succ])
            refine Way.move 10 (by rfl) (by kernel_rfl) (by rfl) (fun wS hS => ?_)
            have hS' := (SB_51.out _).1 hS
            obtain ⟨hb0, ⟨u1_0, hb1⟩, ⟨u2_0, hb2⟩, hn0, hn1, hn2, hn3, hB⟩ := hS'
            have c0_0 := hb0.cell 0
            have c1_0 := hb1.cell 0
            have c2_0 := hb2.cell 0
            have f2_0 := hb2.frozen 0
            go_simp
            obtain ⟨S_52, SB_52⟩ : ∃ S_52 : World → Prop, Go.RowKit.Hid (∀ x : World, S_52 x ↔ (Blk x w2.heap.size 42 #[.slice A4 n4 c4] ∧ (∃ u0, Blk x V9.heap.size 42 #[u0]) ∧ Blk x V8.heap.size 42 #[.slice A6 n6 c6] ∧ NatL x A4 n4 c4 (W64 * hi + lo) ∧ NatL x A5 n5 c5 (d) ∧ NatL x A6 n6 c6 ((W64 * hi + lo) / d) ∧ NatL x A7 n7 c7 ((W64 * hi + lo) % d) ∧ Below w.heap.size w x)) := ⟨_, Lib.hid (fun _ => Iff.rfl)⟩
            have hst : Stays S_52 := fun W W' h hb => by obtain ⟨hb0, ⟨u1_0, hb1⟩, hb2, hn0, hn1, hn2, hn3, hB⟩ := (SB_52.out _).1 h; exact (SB_52.out _).2 ⟨hb0.st hb, ⟨u1_0, hb1.st hb⟩, hb2.st hb, hn0.below hb, hn1.below hb, hn2.below hb, hn3.below hb, hB.trans (hb.mono (Nat.le_trans SBL hB.size))⟩
            have hle : ∀ x, S_52 x → S_51 x := fun x h => by obtain ⟨hb0, ⟨u1_0, hb1⟩, hb2, hn0, hn1, hn2, hn3, hB⟩ := (SB_52.out _).1 h; exact (SB_51.out _).2 ⟨hb0, ⟨_, hb1⟩, ⟨_, hb2⟩, hn0, hn1, hn2, hn3, hB⟩
            refine Moved.keep S_52 hst hle ((SB_52.out _).2 ⟨(hb0.far (by first | (simp; done) | (simp; omega)) _), ⟨u1_0, (hb1.far (by first | (simp; done) | (simp; omega)) _)⟩, (hb2.set1 0 _), (hn0.set hb2 (by decide) _), (hn1.set hb2 (by decide) _), (hn2.set hb2 (by decide) _), (hn3.set hb2 (by decide) _), (hB.setCell (by first | (simp; done) | (simp; omega)) _)⟩) ?_
            clear hst hle
            try simp only [Act.put, List.setIfInBounds_toArray, List.set_cons_zero, List.set_cons_succ]
            refine Way.move 11 (by rfl) (by kernel_rfl) (by rfl) (fun wS hS => ?_)
            have hS' := (SB_52.out _).1 hS
            obtain ⟨hb0, ⟨u1_0, hb1⟩, hb2, hn0, hn1, hn2, hn3, hB⟩ := hS'
            have c0_0 := hb0.cell 0
            have c1_0 := hb1.cell 0
            have c2_0 := hb2.cell 0
            have f1_0 := hb1.frozen 0
            go_simp
            obtain ⟨S_53, SB_53⟩ : ∃ S_53 : World → Prop, Go.RowKit.Hid (∀ x : World, S_53 x ↔ (Blk x w2.heap.size 42 #[.slice A4 n4 c4] ∧ Blk x V9.heap.size 42 #[.slice A7 n7 c7] ∧ Blk x V8.heap.size 42 #[.slice A6 n6 c6] ∧ NatL x A4 n4 c4 (W64 * hi + lo) ∧ NatL x A5 n5 c5 (d) ∧ NatL x A6 n6 c6 ((W64 * hi + lo) / d) ∧ NatL x A7 n7 c7 ((W64 * hi + lo) % d) ∧ Below w.heap.size w x)) := ⟨_, Lib.hid (fun _ => Iff.rfl)⟩
            have hst : Stays S_53 := fun W W' h hb => by obtain ⟨hb0, hb1, hb2, hn0, hn1, hn2, hn3, hB⟩ := (SB_53.out _).1 h; exact (SB_53.out _).2 ⟨hb0.st hb, hb1.st hb, hb2.st hb, hn0.below hb, hn1.below hb, hn2.below hb, hn3.below hb, hB.trans (hb.mono (Nat.le_trans SBL hB.size))⟩
            have hle : ∀ x, S_53 x → S_52 x := fun x h => by obtain ⟨hb0, hb1, hb2, hn0, hn1, hn2, hn3, hB⟩ := (SB_53.out _).1 h; exact (SB_52.out _).2 ⟨hb0, ⟨_, hb1⟩, hb2, hn0, hn1, hn2, hn3, hB⟩
            refine Moved.keep S_53 hst hle ((SB_53.out _).2 ⟨(hb0.far (by first | (simp; done) | (simp; omega)) _), (hb1.set1 0 _), (hb2.far (by first | (simp; done) | (simp; omega)) _), (hn0.set hb1 (by decide) _), (hn1.set hb1 (by decide) _), (hn2.set hb1 (by decide) _), (hn3.set hb1 (by decide) _), (hB.setCell (by first | (simp; done) | (simp; omega)) _)⟩) ?_
            clear hst hle
            try simp only [Act.put, List.setIfInBounds_toArray, List.set_cons_zero, List.set_cons_succ]
            first
              | (refine Way.no 12 (by rfl) (by kernel_rfl) (by rfl) ?_; simp only [Act.put, List.setIfInBounds_toArray, List.set_cons_zero, List.set_cons_succ])
              | (refine' Way.yes 12 (by rfl) (by kernel_rfl) (by rfl) (fun wS hS => ?_) ?_
                 rotate_left
                 · have hS' := (SB_53.out _).1 hS
                   obtain ⟨hb0, hb1, hb2, hn0, hn1, hn2, hn3, hB⟩ := hS'
                   have c0_0 := hb0.cell 0
                   have c1_0 := hb1.cell 0
                   have c2_0 := hb2.cell 0
                   go_simp
                   first
                     | exact ⟨rfl, Below.refl _ _⟩
                 simp only [Act.put, List.setIfInBounds_toArray, List.set_cons_zero, List.set_cons_succ])
            refine Way.done (by kernel_rfl) (fun wE hS => ?_)
            have hS' := (SB_53.out _).1 hS
            obtain ⟨hb0, hb1, hb2, hn0, hn1, hn2, hn3, hB⟩ := hS'
            have c0_0 := hb0.cell 0
            have c1_0 := hb1.cell 0
            have c2_0 := hb2.cell 0
            clear hS
            go_wp2_with fail
            go_meet
            exact ⟨_, _, _, _, _, _, _, _, rfl, rfl, rfl, hb0, hb2, hb1, hn0, hn2, hn3, hB⟩
        · have hS' := (SB_44.out _).1 hS
          obtain ⟨hb0, ⟨u1_0, hb1⟩, hn0, hB⟩ := hS'
          have c0_0 := hb0.cell 0
          have c1_0 := hb1.cell 0
          have lt_V8_0 := hb0.lt
          have lt_V8_1 := hb1.lt
          have leB_V8 := Nat.le_trans SBL hB.size
          go_simp
          obtain ⟨S_54, SB_54⟩ : ∃ S_54 : World → Prop, Go.RowKit.Hid (∀ x : World, S_54 x ↔ (Blk x w2.heap.size 42 #[.slice A4 n4 c4] ∧ (∃ u0, Blk x V9.heap.size 42 #[u0]) ∧ (∃ u0, Blk x V8.heap.size 42 #[u0]) ∧ NatL x A4 n4 c4 (W64 * hi + lo) ∧ Below w.heap.size w x)) := ⟨_, Lib.hid (fun _ => Iff.rfl)⟩
          have hst : Stays S_54 := fun W W' h hb => by obtain ⟨hb0, ⟨u1_0, hb1⟩, ⟨u2_0, hb2⟩, hn0, hB⟩ := (SB_54.out _).1 h; exact (SB_54.out _).2 ⟨hb0.st hb, ⟨u1_0, hb1.st hb⟩, ⟨u2_0, hb2.st hb⟩, hn0.below hb, hB.trans (hb.mono (Nat.le_trans SBL hB.size))⟩
          have hle : ∀ x, S_54 x → S_44 x := fun x h => by obtain ⟨hb0, ⟨u1_0, hb1⟩, ⟨u2_0, hb2⟩, hn0, hB⟩ := (SB_54.out _).1 h; exact (SB_44.out _).2 ⟨hb0, ⟨u1_0, hb1⟩, hn0, hB⟩
          refine Moved.keep S_54 hst hle ((SB_54.out _).2 ⟨hb0.alloc _, ⟨u1_0, hb1.alloc _⟩, ⟨_, Blk.new V8 _ _⟩, hn0.below (below_new _ _), hB.alloc (Nat.le_trans SBL hB.size) _⟩) ?_
          clear hst hle
          try simp only [Act.put, List.setIfInBounds_toArray, List.set_cons_zero, List.set_cons_succ]
          refine Way.move 2 (by rfl) (by kernel_rfl) (by rfl) (fun V5 hS => ?_)
          have hS' := (SB_54.out _).1 hS
          obtain ⟨hb0, ⟨u1_0, hb1⟩, ⟨u2_0, hb2⟩, hn0, hB⟩ := hS'
          have c0_0 := hb0.cell 0
          have c1_0 := hb1.cell 0
          have c2_0 := hb2.cell 0
          go_simp
          with_reducible refine (of_any d _ HD.out).mono ?_
          rintro e w5 ⟨A5, n5, c5, rfl, hl, hb⟩
          refine ⟨_, rfl, ?_⟩
          obtain ⟨S_55, SB_55⟩ : ∃ S_55 : World → Prop, Go.RowKit.Hid (∀ x : World, S_55 x ↔ (Blk x w2.heap.size 42 #[.slice A4 n4 c4] ∧ (∃ u0, Blk x V9.heap.size 42 #[u0]) ∧ (∃ u0, Blk x V8.heap.size 42 #[u0]) ∧ NatL x A4 n4 c4 (W64 * hi + lo) ∧ NatL x A5 n5 c5 (d) ∧ Below w.heap.size w x)) := ⟨_, Lib.hid (fun _ => Iff.rfl)⟩
          have hst : Stays S_55 := fun W W' h hb => by obtain ⟨hb0, ⟨u1_0, hb1⟩, ⟨u2_0, hb2⟩, hn0, hn1, hB⟩ := (SB_55.out _).1 h; exact (SB_55.out _).2 ⟨hb0.st hb, ⟨u1_0, hb1.st hb⟩, ⟨u2_0, hb2.st hb⟩, hn0.below hb, hn1.below hb, hB.trans (hb.mono (Nat.le_trans SBL hB.size))⟩
          have hle : ∀ x, S_55 x → S_54 x := fun x h => by obtain ⟨hb0, ⟨u1_0, hb1⟩, ⟨u2_0, hb2⟩, hn0, hn1, hB⟩ := (SB_55.out _).1 h; exact (SB_54.out _).2 ⟨hb0, ⟨u1_0, hb1⟩, ⟨u2_0, hb2⟩, hn0, hB⟩
          refine Moved.keep S_55 hst hle ((SB_55.out _).2 ⟨hb0.st hb, ⟨u1_0, hb1.st hb⟩, ⟨u2_0, hb2.st hb⟩, hn0.below hb, hl, hB.trans (hb.mono (Nat.le_trans SBL hB.size))⟩) ?_
          clear hst hle
          try simp only [Act.put, List.setIfInBounds_toArray, List.set_cons_zero, List.set_cons_succ]
          refine Way.move 3 (by rfl) (by kernel_rfl) (by rfl) (fun V6 hS => ?_)
          have hS' := (SB_55.out _).1 hS
          obtain ⟨hb0, ⟨u1_0, hb1⟩, ⟨u2_0, hb2⟩, hn0, hn1, hB⟩ := hS'
          have c0_0 := hb0.cell 0
          have c1_0 := hb1.cell 0
          have c2_0 := hb2.cell 0
          go_simp
          with_reducible refine (div_nat _ _ _ _ _ hn0.w hn1.w (Nat.le_trans (small128 HN.out) (by decide)) (Nat.le_trans (blen_le64 HD.out) (by decide)) HD0.out).mono ?_
          rintro e w6 ⟨A6, n6, c6, A7, n7, c7, rfl, hl, hl1, hb⟩
          refine ⟨_, rfl, ?_⟩
          obtain ⟨S_56, SB_56⟩ : ∃ S_56 : World → Prop, Go.RowKit.Hid (∀ x : World, S_56 x ↔ (Blk x w2.heap.size 42 #[.slice A4 n4 c4] ∧ (∃ u0, Blk x V9.heap.size 42 #[u0]) ∧ (∃ u0, Blk x V8.heap.size 42 #[u0]) ∧ NatL x A4 n4 c4 (W64 * hi + lo) ∧ NatL x A5 n5 c5 (d) ∧ NatL x A6 n6 c6 ((W64 * hi + lo) / d) ∧ NatL x A7 n7 c7 ((W64 * hi + lo) % d) ∧ Below w.heap.size w x)) := ⟨_, Lib.hid (fun _ => Iff.rfl)⟩
          have hst : Stays S_56 := fun W W' h hb => by obtain ⟨hb0, ⟨u1_0, hb1⟩, ⟨u2_0, hb2⟩, hn0, hn1, hn2, hn3, hB⟩ := (SB_56.out _).1 h; exact (SB_56.out _).2 ⟨hb0.st hb, ⟨u1_0, hb1.st hb⟩, ⟨u2_0, hb2.st hb⟩, hn0.below hb, hn1.below hb, hn2.below hb, hn3.below hb, hB.trans (hb.mono (Nat.le_trans SBL hB.size))⟩
          have hle : ∀ x, S_56 x → S_55 x := fun x h => by obtain ⟨hb0, ⟨u1_0, hb1⟩, ⟨u2_0, hb2⟩, hn0, hn1, hn2, hn3, hB⟩ := (SB_56.out _).1 h; exact (SB_55.out _).2 ⟨hb0, ⟨u1_0, hb1⟩, ⟨u2_0, hb2⟩, hn0, hn1, hB⟩
          refine Moved.keep S_56 hst hle ((SB_56.out _).2 ⟨hb0.st hb, ⟨u1_0, hb1.st hb⟩, ⟨u2_0, hb2.st hb⟩, hn0.below hb, hn1.below hb, hl, hl1, hB.trans (hb.mono (Nat.le_trans SBL hB.size))⟩) ?_
          clear hst hle
          try simp only [Act.put, List.setIfInBounds_toArray, List.set_cons_zero, List.set_cons_succ]
          first
            | (refine Way.no 4 (by rfl) (by kernel_rfl) (by rfl) ?_; simp only [Act.put, List.setIfInBounds_toArray, List.set_cons_zero, List.set_cons_succ])
            | (refine' Way.yes 4 (by rfl) (by kernel_rfl) (by rfl) (fun wS hS => ?_) ?_
               rotate_left
               · have hS' := (SB_56.out _).1 hS
                 obtain ⟨hb0, ⟨u1_0, hb1⟩, ⟨u2_0, hb2⟩, hn0, hn1, hn2, hn3, hB⟩ := hS'
                 have c0_0 := hb0.cell 0
                 have c1_0 := hb1.cell 0
                 have c2_0 := hb2.cell 0
                 go_simp
                 first
                   | exact ⟨rfl, Below.refl _ _⟩
               simp only [Act.put, List.setIfInBounds_toArray, List.set_cons_zero, List.set_cons_succ])
          first
            | (refine Way.no 5 (by rfl) (by kernel_rfl) (by rfl) ?_; simp only [Act.put, List.setIfInBounds_toArray, List.set_cons_zero, List.set_cons_succ])
            | (refine' Way.yes 5 (by rfl) (by kernel_rfl) (by rfl) (fun wS hS => ?_) ?_
               rotate_left
               · have hS' := (SB_56.out _).1 hS
                 obtain ⟨hb0, ⟨u1_0, hb1⟩, ⟨u2_0, hb2⟩, hn0, hn1, hn2, hn3, hB⟩ := hS'
                 have c0_0 := hb0.cell 0
                 have c1_0 := hb1.cell 0
                 have c2_0 := hb2.cell 0
                 go_simp
                 first
                   | exact ⟨rfl, Below.refl _ _⟩
               simp only [Act.put, List.setIfInBounds_toArray, List.set_cons_zero, List.set_cons_succ])
          first
            | (refine Way.no 6 (by rfl) (by kernel_rfl) (by rfl) ?_; simp only [Act.put, List.setIfInBounds_toArray, List.set_cons_zero, List.set_cons_succ])
            | (refine' Way.yes 6 (by rfl) (by kernel_rfl) (by rfl) (fun wS hS => ?_) ?_
               rotate_left
               · have hS' := (SB_56.out _).1 hS
                 obtain ⟨hb0, ⟨u1_0, hb1⟩, ⟨u2_0, hb2⟩, hn0, hn1, hn2, hn3, hB⟩ := hS'
                 have c0_0 := hb0.cell 0
                 have c1_0 := hb1.cell 0
                 have c2_0 := hb2.cell 0
                 go_simp
                 first
                   | exact ⟨rfl, Below.refl _ _⟩
               simp only [Act.put, List.setIfInBounds_toArray, List.set_cons_zero, List.set_cons_succ])
          first
            | (refine Way.no 7 (by rfl) (by kernel_rfl) (by rfl) ?_; simp only [Act.put, List.setIfInBounds_toArray, List.set_cons_zero, List.set_cons_succ])
            | (refine' Way.yes 7 (by rfl) (by kernel_rfl) (by rfl) (fun wS hS => ?_) ?_
               rotate_left
               · have hS' := (SB_56.out _).1 hS
                 obtain ⟨hb0, ⟨u1_0, hb1⟩, ⟨u2_0, hb2⟩, hn0, hn1, hn2, hn3, hB⟩ := hS'
                 have c0_0 := hb0.cell 0
                 have c1_0 := hb1.cell 0
                 have c2_0 := hb2.cell 0
                 go_simp
                 first
                   | exact ⟨rfl, Below.refl _ _⟩
               simp only [Act.put, List.setIfInBounds_toArray, List.set_cons_zero, List.set_cons_succ])
          refine Way.move 10 (by rfl) (by kernel_rfl) (by rfl) (fun wS hS => ?_)
          have hS' := (SB_56.out _).1 hS
          obtain ⟨hb0, ⟨u1_0, hb1⟩, ⟨u2_0, hb2⟩, hn0, hn1, hn2, hn3, hB⟩ := hS'
          have c0_0 := hb0.cell 0
          have c1_0 := hb1.cell 0
          have c2_0 := hb2.cell 0
          have f2_0 := hb2.frozen 0
          go_simp
          obtain ⟨S_57, SB_57⟩ : ∃ S_57 : World → Prop, Go.RowKit.Hid (∀ x : World, S_57 x ↔ (Blk x w2.heap.size 42 #[.slice A4 n4 c4] ∧ (∃ u0, Blk x V9.heap.size 42 #[u0]) ∧ Blk x V8.heap.size 42 #[.slice A6 n6 c6] ∧ NatL x A4 n4 c4 (W64 * hi + lo) ∧ NatL x A5 n5 c5 (d) ∧ NatL x A6 n6 c6 ((W64 * hi + lo) / d) ∧ NatL x A7 n7 c7 ((W64 * hi + lo) % d) ∧ Below w.heap.size w x)) := ⟨_, Lib.hid (fun _ => Iff.rfl)⟩
          have hst : Stays S_57 := fun W W' h hb => by obtain ⟨hb0, ⟨u1_0, hb1⟩, hb2, hn0, hn1, hn2, hn3, hB⟩ := (SB_57.out _).1 h; exact (SB_57.out _).2 ⟨hb0.st hb, ⟨u1_0, hb1.st hb⟩, hb2.st hb, hn0.below hb, hn1.below hb, hn2.below hb, hn3.below hb, hB.trans (hb.mono (Nat.le_trans SBL hB.size))⟩
          have hle : ∀ x, S_57 x → S_56 x := fun x h => by obtain ⟨hb0, ⟨u1_0, hb1⟩, hb2, hn0, hn1, hn2, hn3, hB⟩ := (SB_57.out _).1 h; exact (SB_56.out _).2 ⟨hb0, ⟨_, hb1⟩, ⟨_, hb2⟩, hn0, hn1, hn2, hn3, hB⟩
          refine Moved.keep S_57 hst hle ((SB_57.out _).2 ⟨(hb0.far (by first | (simp; done) | (simp; omega)) _), ⟨u1_0, (hb1.far (by first | (simp; done) | (simp; omega)) _)⟩, (hb2.set1 0 _), (hn0.set hb2 (by decide) _), (hn1.set hb2 (by decide) _), (hn2.set hb2 (by decide) _), (hn3.set hb2 (by decide) _), (hB.setCell (by first | (simp; done) | (simp; omega)) _)⟩) ?_
          clear hst hle
          try simp only [Act.put, List.setIfInBounds_toArray, List.set_cons_zero, List.set_cons_succ]
          refine Way.move 11 (by rfl) (by kernel_rfl) (by rfl) (fun wS hS => ?_)
          have hS' := (SB_57.out _).1 hS
          obtain ⟨hb0, ⟨u1_0, hb1⟩, hb2, hn0, hn1, hn2, hn3, hB⟩ := hS'
          have c0_0 := hb0.cell 0
          have c1_0 := hb1.cell 0
          have c2_0 := hb2.cell 0
          have f1_0 := hb1.frozen 0
          go_simp
          obtain ⟨S_58, SB_58⟩ : ∃ S_58 : World → Prop, Go.RowKit.Hid (∀ x : World, S_58 x ↔ (Blk x w2.heap.size 42 #[.slice A4 n4 c4] ∧ Blk x V9.heap.size 42 #[.slice A7 n7 c7] ∧ Blk x V8.heap.size 42 #[.slice A6 n6 c6] ∧ NatL x A4 n4 c4 (W64 * hi + lo) ∧ NatL x A5 n5 c5 (d) ∧ NatL x A6 n6 c6 ((W64 * hi + lo) / d) ∧ NatL x A7 n7 c7 ((W64 * hi + lo) % d) ∧ Below w.heap.size w x)) := ⟨_, Lib.hid (fun _ => Iff.rfl)⟩
          have hst : Stays S_58 := fun W W' h hb => by obtain ⟨hb0, hb1, hb2, hn0, hn1, hn2, hn3, hB⟩ := (SB_58.out _).1 h; exact (SB_58.out _).2 ⟨hb0.st hb, hb1.st hb, hb2.st hb, hn0.below hb, hn1.below hb, hn2.below hb, hn3.below hb, hB.trans (hb.mono (Nat.le_trans SBL hB.size))⟩
          have hle : ∀ x, S_58 x → S_57 x := fun x h => by obtain ⟨hb0, hb1, hb2, hn0, hn1, hn2, hn3, hB⟩ := (SB_58.out _).1 h; exact (SB_57.out _).2 ⟨hb0, ⟨_, hb1⟩, hb2, hn0, hn1, hn2, hn3, hB⟩
          refine Moved.keep S_58 hst hle ((SB_58.out _).2 ⟨(hb0.far (by first | (simp; done) | (simp; omega)) _), (hb1.set1 0 _), (hb2.far (by first | (simp; done) | (simp; omega)) _), (hn0.set hb1 (by decide) _), (hn1.set hb1 (by decide) _), (hn2.set hb1 (by decide) _), (hn3.set hb1 (by decide) _), (hB.setCell (by first | (simp; done) | (simp; omega)) _)⟩) ?_
          clear hst hle
          try simp only [Act.put, List.setIfInBounds_toArray, List.set_cons_zero, List.set_cons_succ]
          first
            | (refine Way.no 12 (by rfl) (by kernel_rfl) (by rfl) ?_; simp only [Act.put, List.setIfInBounds_toArray, List.set_cons_zero, List.set_cons_succ])
            | (refine' Way.yes 12 (by rfl) (by kernel_rfl) (by rfl) (fun wS hS => ?_) ?_
               rotate_left
               · have hS' := (SB_58.out _).1 hS
                 obtain ⟨hb0, hb1, hb2, hn0, hn1, hn2, hn3, hB⟩ := hS'
                 have c0_0 := hb0.cell 0
                 have c1_0 := hb1.cell 0
                 have c2_0 := hb2.cell 0
                 go_simp
                 first
                   | exact ⟨rfl, Below.refl _ _⟩
               simp only [Act.put, List.setIfInBounds_toArray, List.set_cons_zero, List.set_cons_succ])
          refine Way.done (by kernel_rfl) (fun wE hS => ?_)
          have hS' := (SB_58.out _).1 hS
          obtain ⟨hb0, hb1, hb2, hn0, hn1, hn2, hn3, hB⟩ := hS'
          have c0_0 := hb0.cell 0
          have c1_0 := hb1.cell 0
          have c2_0 := hb2.cell 0
          clear hS
          go_wp2_with fail
          go_meet
          exact ⟨_, _, _, _, _, _, _, _, rfl, rfl, rfl, hb0, hb2, hb1, hn0, hn2, hn3, hB⟩
    case rest =>
      obtain ⟨g9, g10, A6, n6, c6, A7, n7, c7, rfl, rfl, rfl, hb0, hb1, hb2, hn0, hn1, hn2, hB⟩ := hcut
      have BB := Lib.hid hB
      have B0 := Lib.hid hb0
      have B1 := Lib.hid hb1
      have B2 := Lib.hid hb2
      have N0 := Lib.hid hn0
      have N1 := Lib.hid hn1
      have N2 := Lib.hid hn2
      have t0 := HT.out
      clear hB hb0 hb1 hb2 hn0 hn1 hn2
      have HQ : (W64 * hi + lo) / d < P128 := Nat.lt_of_le_of_lt (Nat.div_le_self _ _) HN.out
      have HR : (W64 * hi + lo) % d < W64 := Nat.lt_trans (Nat.mod_lt _ HD0.out) HD.out
      have H1 := Lib.hid (fun W => div_pair (W64 * hi + lo) d HN.out HD0.out HD.out W)
      have H9 := Lib.hid (fun W => len_pair (W64 * hi + lo) HN.out W)
      rw [HPV.out] at H1 H9
      have hHi := pHi_lt HQ
      have hLo := pLo_lt ((W64 * hi + lo) / d)
      have hE := p_eq ((W64 * hi + lo) / d)
      have hdd : (W64 * hi + lo) / d / 2 ^ (64 : Int).toNat = pHi ((W64 * hi + lo) / d) := rfl
      have HMM := Lib.hid (small128 HN.out)
      unfold pv at H1
      generalize (W64 * hi + lo) / d = Q at *
      generalize (W64 * hi + lo) % d = R at *
      generalize W64 * hi + lo = M at *
      have HHI2 := Lib.hid hHi
      have HLO2 := Lib.hid hLo
      have HE := Lib.hid hE
      have HQQ := Lib.hid HQ
      have HRR := Lib.hid HR
      have HDD := Lib.hid hdd
      clear hHi hLo hE HQ HR hdd HPV
      have e1 : ∀ W, Calls Tryd.prog 12 #[.agg #[wv hi, wv lo], wv d] W fun e w' => e = .returned (.tuple #[.agg #[wv (pHi Q), wv (pLo Q)], wv R, .nilIface]) ∧ Below W.heap.size W w' := H1.out
      have H1' := Lib.hid e1
      clear e1
      generalize hqh : pHi Q = qh at *
      generalize hql : pLo Q = ql at *
      clear hqh hql
      have c0_0 := B0.out.cell 0
      have c1_0 := B1.out.cell 0
      have c2_0 := B2.out.cell 0
      go_wp2_with fail
      with_reducible refine (H1'.out _).mono ?_
      rintro e u1 ⟨rfl, hb⟩
      clear c0_0 c1_0 c2_0
      have B0 := Lib.hid ((B0.out.st hb).alloc (.cells #[wv qh, wv ql] 24))
      have B1 := Lib.hid ((B1.out.st hb).alloc (.cells #[wv qh, wv ql] 24))
      have B2 := Lib.hid ((B2.out.st hb).alloc (.cells #[wv qh, wv ql] 24))
      have N0 := Lib.hid ((N0.out.below hb).below (below_new _ (.cells #[wv qh, wv ql] 24)))
      have N1 := Lib.hid ((N1.out.below hb).below (below_new _ (.cells #[wv qh, wv ql] 24)))
      have N2 := Lib.hid ((N2.out.below hb).below (below_new _ (.cells #[wv qh, wv ql] 24)))
      have hbk := keepb BB.out hb
      have BB := Lib.hid (hbk.alloc hbk.size (.cells #[wv qh, wv ql] 24))
      have B3 := Lib.hid (Blk.new u1 24 #[wv qh, wv ql])
      clear hbk hb 
      have c0_0 := B0.out.cell 0
      have c1_0 := B1.out.cell 0
      have c2_0 := B2.out.cell 0
      have c3_0 := B3.out.cell 0
      have c3_1 := B3.out.cell 1
      go_wp2_with fail
      with_reducible refine (nshr_nat _ _ 64 _ (N1.out).w (Nat.le_trans (small128 HQQ.out) (by decide)) (by decide)).mono ?_
      rintro e u2 ⟨A8, n8, c8, rfl, hl, hb⟩
      rw [HDD.out] at hl
      clear c0_0 c1_0 c2_0 c3_0 c3_1
      have B0 := Lib.hid ((B0.out.st hb).alloc (.cells #[.slice A8 n8 c8] 42))
      have B1 := Lib.hid ((B1.out.st hb).alloc (.cells #[.slice A8 n8 c8] 42))
      have B2 := Lib.hid ((B2.out.st hb).alloc (.cells #[.slice A8 n8 c8] 42))
      have B3 := Lib.hid ((B3.out.st hb).alloc (.cells #[.slice A8 n8 c8] 42))
      have N0 := Lib.hid ((N0.out.below hb).below (below_new _ (.cells #[.slice A8 n8 c8] 42)))
      have N1 := Lib.hid ((N1.out.below hb).below (below_new _ (.cells #[.slice A8 n8 c8] 42)))
      have N2 := Lib.hid ((N2.out.below hb).below (below_new _ (.cells #[.slice A8 n8 c8] 42)))
      have N3 := Lib.hid (hl.below (below_new _ (.cells #[.slice A8 n8 c8] 42)))
      have hbk := keepb BB.out hb
      have BB := Lib.hid (hbk.alloc hbk.size (.cells #[.slice A8 n8 c8] 42))
      have B4 := Lib.hid (Blk.new u2 42 #[.slice A8 n8 c8])
      clear hbk hb hl
      have c0_0 := B0.out.cell 0
      have c1_0 := B1.out.cell 0
      have c2_0 := B2.out.cell 0
      have c3_0 := B3.out.cell 0
      have c3_1 := B3.out.cell 1
      have c4_0 := B4.out.cell 0
      go_wp2_with fail
      with_reducible refine (nword_nat _ _ _ (N3.out).w (Nat.le_trans (blen_le64 HHI2.out) (by decide))).mono ?_
      rintro e u3 ⟨rfl, hb⟩
      unfold wordV
      rw [if_pos HHI2.out]
      clear c0_0 c1_0 c2_0 c3_0 c3_1 c4_0
      have B0 := Lib.hid (B0.out.st hb)
      have B1 := Lib.hid (B1.out.st hb)
      have B2 := Lib.hid (B2.out.st hb)
      have B3 := Lib.hid (B3.out.st hb)
      have B4 := Lib.hid (B4.out.st hb)
      have N0 := Lib.hid (N0.out.below hb)
      have N1 := Lib.hid (N1.out.below hb)
      have N2 := Lib.hid (N2.out.below hb)
      have N3 := Lib.hid (N3.out.below hb)
      have hbk := keepb BB.out hb
      have BB := Lib.hid hbk
      clear hbk hb 
      have c0_0 := B0.out.cell 0
      have c1_0 := B1.out.cell 0
      have c2_0 := B2.out.cell 0
      have c3_0 := B3.out.cell 0
      have c3_1 := B3.out.cell 1
      have c4_0 := B4.out.cell 0
      go_wp2_with fail
      with_reducible refine (nword_nat _ _ _ (N2.out).w (Nat.le_trans (blen_le64 HRR.out) (by decide))).mono ?_
      rintro e u4 ⟨rfl, hb⟩
      unfold wordV
      rw [if_pos HRR.out]
      clear c0_0 c1_0 c2_0 c3_0 c3_1 c4_0
      have B0 := Lib.hid (B0.out.st hb)
      have B1 := Lib.hid (B1.out.st hb)
      have B2 := Lib.hid (B2.out.st hb)
      have B3 := Lib.hid (B3.out.st hb)
      have B4 := Lib.hid (B4.out.st hb)
      have N0 := Lib.hid (N0.out.below hb)
      have N1 := Lib.hid (N1.out.below hb)
      have N2 := Lib.hid (N2.out.below hb)
      have N3 := Lib.hid (N3.out.below hb)
      have hbk := keepb BB.out hb
      have BB := Lib.hid hbk
      clear hbk hb 
      have c0_0 := B0.out.cell 0
      have c1_0 := B1.out.cell 0
      have c2_0 := B2.out.cell 0
      have c3_0 := B3.out.cell 0
      have c3_1 := B3.out.cell 1
      have c4_0 := B4.out.cell 0
      go_wp2_with fail
      with_reducible refine (of_any qh _ HHI2.out).mono ?_
      rintro e u5 ⟨A9, n9, c9, rfl, hl, hb⟩
      clear c0_0 c1_0 c2_0 c3_0 c3_1 c4_0
      have B0 := Lib.hid (B0.out.st hb)
      have B1 := Lib.hid (B1.out.st hb)
      have B2 := Lib.hid (B2.out.st hb)
      have B3 := Lib.hid (B3.out.st hb)
      have B4 := Lib.hid (B4.out.st hb)
      have N0 := Lib.hid (N0.out.below hb)
      have N1 := Lib.hid (N1.out.below hb)
      have N2 := Lib.hid (N2.out.below hb)
      have N3 := Lib.hid (N3.out.below hb)
      have N4 := Lib.hid hl
      have hbk := keepb BB.out hb
      have BB := Lib.hid hbk
      clear hbk hb hl
      have c0_0 := B0.out.cell 0
      have c1_0 := B1.out.cell 0
      have c2_0 := B2.out.cell 0
      have c3_0 := B3.out.cell 0
      have c3_1 := B3.out.cell 1
      have c4_0 := B4.out.cell 0
      go_wp2_with fail
      with_reducible refine (shl_any A9 n9 c9 qh _ N4.out HHI2.out).mono ?_
      rintro e u6 ⟨A10, n10, c10, rfl, hl, hb⟩
      clear c0_0 c1_0 c2_0 c3_0 c3_1 c4_0
      have B0 := Lib.hid ((B0.out.st hb).alloc (.cells #[.slice A10 n10 c10] 42))
      have B1 := Lib.hid ((B1.out.st hb).alloc (.cells #[.slice A10 n10 c10] 42))
      have B2 := Lib.hid ((B2.out.st hb).alloc (.cells #[.slice A10 n10 c10] 42))
      have B3 := Lib.hid ((B3.out.st hb).alloc (.cells #[.slice A10 n10 c10] 42))
      have B4 := Lib.hid ((B4.out.st hb).alloc (.cells #[.slice A10 n10 c10] 42))
      have N0 := Lib.hid ((N0.out.below hb).below (below_new _ (.cells #[.slice A10 n10 c10] 42)))
      have N1 := Lib.hid ((N1.out.below hb).below (below_new _ (.cells #[.slice A10 n10 c10] 42)))
      have N2 := Lib.hid ((N2.out.below hb).below (below_new _ (.cells #[.slice A10 n10 c10] 42)))
      have N3 := Lib.hid ((N3.out.below hb).below (below_new _ (.cells #[.slice A10 n10 c10] 42)))
      have N4 := Lib.hid ((N4.out.below hb).below (below_new _ (.cells #[.slice A10 n10 c10] 42)))
      have N5 := Lib.hid (hl.below (below_new _ (.cells #[.slice A10 n10 c10] 42)))
      have hbk := keepb BB.out hb
      have BB := Lib.hid (hbk.alloc hbk.size (.cells #[.slice A10 n10 c10] 42))
      have B5 := Lib.hid (Blk.new u6 42 #[.slice A10 n10 c10])
      clear hbk hb hl
      have c0_0 := B0.out.cell 0
      have c1_0 := B1.out.cell 0
      have c2_0 := B2.out.cell 0
      have c3_0 := B3.out.cell 0
      have c3_1 := B3.out.cell 1
      have c4_0 := B4.out.cell 0
      have c5_0 := B5.out.cell 0
      clear c0_0 c1_0 c2_0 c3_0 c3_1 c4_0 c5_0
      go_upto_region 19 with fail
      have SCL : w.heap.size ≤ w.heap.size := Nat.le_refl _
      obtain ⟨S, SC⟩ : ∃ S : World → Prop, Go.RowKit.Hid (∀ x : World, S x ↔ (Blk x w2.heap.size 42 #[.slice A4 n4 c4] ∧ Blk x g9 42 #[.slice A6 n6 c6] ∧ Blk x g10 42 #[.slice A7 n7 c7] ∧ Blk x u1.heap.size 24 #[wv qh, wv ql] ∧ Blk x u2.heap.size 42 #[.slice A8 n8 c8] ∧ Blk x u6.heap.size 42 #[.slice A10 n10 c10] ∧ NatL x A4 n4 c4 (M) ∧ NatL x A6 n6 c6 (Q) ∧ NatL x A7 n7 c7 (R) ∧ NatL x A8 n8 c8 (qh) ∧ NatL x A9 n9 c9 (qh) ∧ NatL x A10 n10 c10 (W64 * qh) ∧ Below w.heap.size w x)) := ⟨_, Lib.hid (fun _ => Iff.rfl)⟩
      refine wp_region_way (S := S) (by kernel_rfl) (by kernel_rfl) (fun W W' h hb => by obtain ⟨hb0, hb1, hb2, hb3, hb4, hb5, hn0, hn1, hn2, hn3, hn4, hn5, hB⟩ := (SC.out _).1 h; exact (SC.out _).2 ⟨hb0.st hb, hb1.st hb, hb2.st hb, hb3.st hb, hb4.st hb, hb5.st hb, hn0.below hb, hn1.below hb, hn2.below hb, hn3.below hb, hn4.below hb, hn5.below hb, hB.trans (hb.mono (Nat.le_trans SCL hB.size))⟩) ((SC.out _).2 ⟨B0.out.drew, B1.out.drew, B2.out.drew, B3.out.drew, B4.out.drew, B5.out.drew, N0.out.below (below_drewN (Below.refl _ _) 1), N1.out.below (below_drewN (Below.refl _ _) 1), N2.out.below (below_drewN (Below.refl _ _) 1), N3.out.below (below_drewN (Below.refl _ _) 1), N4.out.below (below_drewN (Below.refl _ _) 1), N5.out.below (below_drewN (Below.refl _ _) 1), BB.out.drew⟩) ?_
      first
        | (refine Way.no 0 (by rfl) (by kernel_rfl) (by rfl) ?_; simp only [Act.put, List.setIfInBounds_toArray, List.set_cons_zero, List.set_cons_succ])
        | (refine' Way.yes 0 (by rfl) (by kernel_rfl) (by rfl) (fun wS hS => ?_) ?_
           rotate_left
           · have hS' := (SC.out _).1 hS
             obtain ⟨hb0, hb1, hb2, hb3, hb4, hb5, hn0, hn1, hn2, hn3, hn4, hn5, hB⟩ := hS'
             have c0_0 := hb0.cell 0
             have c1_0 := hb1.cell 0
             have c2_0 := hb2.cell 0
             have c3_0 := hb3.cell 0
             have c3_1 := hb3.cell 1
             have c4_0 := hb4.cell 0
             have c5_0 := hb5.cell 0
             go_simp
             first
               | exact ⟨rfl, Below.refl _ _⟩
           simp only [Act.put, List.setIfInBounds_toArray, List.set_cons_zero, List.set_cons_succ])
      first
        | (refine Way.no 1 (by rfl) (by kernel_rfl) (by rfl) ?_; simp only [Act.put, List.setIfInBounds_toArray, List.set_cons_zero, List.set_cons_succ])
        | (refine' Way.yes 1 (by rfl) (by kernel_rfl) (by rfl) (fun wS hS => ?_) ?_
           rotate_left
           · have hS' := (SC.out _).1 hS
             obtain ⟨hb0, hb1, hb2, hb3, hb4, hb5, hn0, hn1, hn2, hn3, hn4, hn5, hB⟩ := hS'
             have c0_0 := hb0.cell 0
             have c1_0 := hb1.cell 0
             have c2_0 := hb2.cell 0
             have c3_0 := hb3.cell 0
             have c3_1 := hb3.cell 1
             have c4_0 := hb4.cell 0
             have c5_0 := hb5.cell 0
             go_simp
             first
               | exact ⟨rfl, Below.refl _ _⟩
           simp only [Act.put, List.setIfInBounds_toArray, List.set_cons_zero, List.set_cons_succ])
      first
        | (refine Way.no 2 (by rfl) (by kernel_rfl) (by rfl) ?_; simp only [Act.put, List.setIfInBounds_toArray, List.set_cons_zero, List.set_cons_succ])
        | (refine' Way.yes 2 (by rfl) (by kernel_rfl) (by rfl) (fun wS hS => ?_) ?_
           rotate_left
           · have hS' := (SC.out _).1 hS
             obtain ⟨hb0, hb1, hb2, hb3, hb4, hb5, hn0, hn1, hn2, hn3, hn4, hn5, hB⟩ := hS'
             have c0_0 := hb0.cell 0
             have c1_0 := hb1.cell 0
             have c2_0 := hb2.cell 0
             have c3_0 := hb3.cell 0
             have c3_1 := hb3.cell 1
             have c4_0 := hb4.cell 0
             have c5_0 := hb5.cell 0
             go_simp
             first
               | exact ⟨rfl, Below.refl _ _⟩
           simp only [Act.put, List.setIfInBounds_toArray, List.set_cons_zero, List.set_cons_succ])
      refine Way.move2 3 8 (by rfl) (by rfl) (by kernel_rfl) (by rfl) (by rfl) (fun V13 hS => ?_) (fun V15 hS => ?_)
      · have hS' := (SC.out _).1 hS
        obtain ⟨hb0, hb1, hb2, hb3, hb4, hb5, hn0, hn1, hn2, hn3, hn4, hn5, hB⟩ := hS'
        have c0_0 := hb0.cell 0
        have c1_0 := hb1.cell 0
        have c2_0 := hb2.cell 0
        have c3_0 := hb3.cell 0
        have c3_1 := hb3.cell 1
        have c4_0 := hb4.cell 0
        have c5_0 := hb5.cell 0
        go_simp
        with_reducible refine (of_any ql _ HLO2.out).mono ?_
        rintro e w13 ⟨A11, n11, c11, rfl, hl, hb⟩
        refine ⟨_, rfl, ?_⟩
        obtain ⟨S_1, SC_1⟩ : ∃ S_1 : World → Prop, Go.RowKit.Hid (∀ x : World, S_1 x ↔ (Blk x w2.heap.size 42 #[.slice A4 n4 c4] ∧ Blk x g9 42 #[.slice A6 n6 c6] ∧ Blk x g10 42 #[.slice A7 n7 c7] ∧ Blk x u1.heap.size 24 #[wv qh, wv ql] ∧ Blk x u2.heap.size 42 #[.slice A8 n8 c8] ∧ Blk x u6.heap.size 42 #[.slice A10 n10 c10] ∧ NatL x A4 n4 c4 (M) ∧ NatL x A6 n6 c6 (Q) ∧ NatL x A7 n7 c7 (R) ∧ NatL x A8 n8 c8 (qh) ∧ NatL x A9 n9 c9 (qh) ∧ NatL x A10 n10 c10 (W64 * qh) ∧ NatL x A11 n11 c11 (ql) ∧ Below w.heap.size w x)) := ⟨_, Lib.hid (fun _ => Iff.rfl)⟩
        have hst : Stays S_1 := fun W W' h hb => by obtain ⟨hb0, hb1, hb2, hb3, hb4, hb5, hn0, hn1, hn2, hn3, hn4, hn5, hn6, hB⟩ := (SC_1.out _).1 h; exact (SC_1.out _).2 ⟨hb0.st hb, hb1.st hb, hb2.st hb, hb3.st hb, hb4.st hb, hb5.st hb, hn0.below hb, hn1.below hb, hn2.below hb, hn3.below hb, hn4.below hb, hn5.below hb, hn6.below hb, hB.trans (hb.mono (Nat.le_trans SCL hB.size))⟩
        have hle : ∀ x, S_1 x → S x := fun x h => by obtain ⟨hb0, hb1, hb2, hb3, hb4, hb5, hn0, hn1, hn2, hn3, hn4, hn5, hn6, hB⟩ := (SC_1.out _).1 h; exact (SC.out _).2 ⟨hb0, hb1, hb2, hb3, hb4, hb5, hn0, hn1, hn2, hn3, hn4, hn5, hB⟩
        refine Moved.keep S_1 hst hle ((SC_1.out _).2 ⟨hb0.st hb, hb1.st hb, hb2.st hb, hb3.st hb, hb4.st hb, hb5.st hb, hn0.below hb, hn1.below hb, hn2.below hb, hn3.below hb, hn4.below hb, hn5.below hb, hl, hB.trans (hb.mono (Nat.le_trans SCL hB.size))⟩) ?_
        clear hst hle
        try simp only [Act.put, List.setIfInBounds_toArray, List.set_cons_zero, List.set_cons_succ]
        refine Way.move2 4 8 (by rfl) (by rfl) (by kernel_rfl) (by rfl) (by rfl) (fun V14 hS => ?_) (fun V15 hS => ?_)
        · have hS' := (SC_1.out _).1 hS
          obtain ⟨hb0, hb1, hb2, hb3, hb4, hb5, hn0, hn1, hn2, hn3, hn4, hn5, hn6, hB⟩ := hS'
          have c0_0 := hb0.cell 0
          have c1_0 := hb1.cell 0
          have c2_0 := hb2.cell 0
          have c3_0 := hb3.cell 0
          have c3_1 := hb3.cell 1
          have c4_0 := hb4.cell 0
          have c5_0 := hb5.cell 0
          go_simp
          with_reducible refine (add_any _ _ _ _ _ _ _ _ _ hn5 hn6 (by rw [HE.out]; exact HQQ.out)).mono ?_
          rintro e w14 ⟨A12, n12, c12, rfl, hl, hb⟩
          rw [HE.out] at hl
          refine ⟨_, rfl, ?_⟩
          obtain ⟨S_2, SC_2⟩ : ∃ S_2 : World → Prop, Go.RowKit.Hid (∀ x : World, S_2 x ↔ (Blk x w2.heap.size 42 #[.slice A4 n4 c4] ∧ Blk x g9 42 #[.slice A6 n6 c6] ∧ Blk x g10 42 #[.slice A7 n7 c7] ∧ Blk x u1.heap.size 24 #[wv qh, wv ql] ∧ Blk x u2.heap.size 42 #[.slice A8 n8 c8] ∧ Blk x u6.heap.size 42 #[.slice A10 n10 c10] ∧ NatL x A4 n4 c4 (M) ∧ NatL x A6 n6 c6 (Q) ∧ NatL x A7 n7 c7 (R) ∧ NatL x A8 n8 c8 (qh) ∧ NatL x A9 n9 c9 (qh) ∧ NatL x A10 n10 c10 (W64 * qh) ∧ NatL x A11 n11 c11 (ql) ∧ NatL x A12 n12 c12 (Q) ∧ Below w.heap.size w x)) := ⟨_, Lib.hid (fun _ => Iff.rfl)⟩
          have hst : Stays S_2 := fun W W' h hb => by obtain ⟨hb0, hb1, hb2, hb3, hb4, hb5, hn0, hn1, hn2, hn3, hn4, hn5, hn6, hn7, hB⟩ := (SC_2.out _).1 h; exact (SC_2.out _).2 ⟨hb0.st hb, hb1.st hb, hb2.st hb, hb3.st hb, hb4.st hb, hb5.st hb, hn0.below hb, hn1.below hb, hn2.below hb, hn3.below hb, hn4.below hb, hn5.below hb, hn6.below hb, hn7.below hb, hB.trans (hb.mono (Nat.le_trans SCL hB.size))⟩
          have hle : ∀ x, S_2 x → S_1 x := fun x h => by obtain ⟨hb0, hb1, hb2, hb3, hb4, hb5, hn0, hn1, hn2, hn3, hn4, hn5, hn6, hn7, hB⟩ := (SC_2.out _).1 h; exact (SC_1.out _).2 ⟨hb0, hb1, hb2, hb3, hb4, hb5, hn0, hn1, hn2, hn3, hn4, hn5, hn6, hB⟩
          refine Moved.keep S_2 hst hle ((SC_2.out _).2 ⟨hb0.st hb, hb1.st hb, hb2.st hb, hb3.st hb, hb4.st hb, hb5.st hb, hn0.below hb, hn1.below hb, hn2.below hb, hn3.below hb, hn4.below hb, hn5.below hb, hn6.below hb, hl, hB.trans (hb.mono (Nat.le_trans SCL hB.size))⟩) ?_
          clear hst hle
          try simp only [Act.put, List.setIfInBounds_toArray, List.set_cons_zero, List.set_cons_succ]
          first
            | (refine Way.no 5 (by rfl) (by kernel_rfl) (by rfl) ?_; simp only [Act.put, List.setIfInBounds_toArray, List.set_cons_zero, List.set_cons_succ])
            | (refine' Way.yes 5 (by rfl) (by kernel_rfl) (by rfl) (fun wS hS => ?_) ?_
               rotate_left
               · have hS' := (SC_2.out _).1 hS
                 obtain ⟨hb0, hb1, hb2, hb3, hb4, hb5, hn0, hn1, hn2, hn3, hn4, hn5, hn6, hn7, hB⟩ := hS'
                 have c0_0 := hb0.cell 0
                 have c1_0 := hb1.cell 0
                 have c2_0 := hb2.cell 0
                 have c3_0 := hb3.cell 0
                 have c3_1 := hb3.cell 1
                 have c4_0 := hb4.cell 0
                 have c5_0 := hb5.cell 0
                 go_simp
                 first
                   | exact ⟨rfl, Below.refl _ _⟩
               simp only [Act.put, List.setIfInBounds_toArray, List.set_cons_zero, List.set_cons_succ])
          first
            | (refine Way.no 6 (by rfl) (by kernel_rfl) (by rfl) ?_; simp only [Act.put, List.setIfInBounds_toArray, List.set_cons_zero, List.set_cons_succ])
            | (refine' Way.yes 6 (by rfl) (by kernel_rfl) (by rfl) (fun wS hS => ?_) ?_
               rotate_left
               · have hS' := (SC_2.out _).1 hS
                 obtain ⟨hb0, hb1, hb2, hb3, hb4, hb5, hn0, hn1, hn2, hn3, hn4, hn5, hn6, hn7, hB⟩ := hS'
                 have c0_0 := hb0.cell 0
                 have c1_0 := hb1.cell 0
                 have c2_0 := hb2.cell 0
                 have c3_0 := hb3.cell 0
                 have c3_1 := hb3.cell 1
                 have c4_0 := hb4.cell 0
                 have c5_0 := hb5.cell 0
                 go_simp
                 first
                   | exact ⟨rfl, Below.refl _ _⟩
               simp only [Act.put, List.setIfInBounds_toArray, List.set_cons_zero, List.set_cons_succ])
          first
            | (refine Way.no 7 (by rfl) (by kernel_rfl) (by rfl) ?_; simp only [Act.put, List.setIfInBounds_toArray, List.set_cons_zero, List.set_cons_succ])
            | (refine' Way.yes 7 (by rfl) (by kernel_rfl) (by rfl) (fun wS hS => ?_) ?_
               rotate_left
               · have hS' := (SC_2.out _).1 hS
                 obtain ⟨hb0, hb1, hb2, hb3, hb4, hb5, hn0, hn1, hn2, hn3, hn4, hn5, hn6, hn7, hB⟩ := hS'
                 have c0_0 := hb0.cell 0
                 have c1_0 := hb1.cell 0
                 have c2_0 := hb2.cell 0
                 have c3_0 := hb3.cell 0
                 have c3_1 := hb3.cell 1
                 have c4_0 := hb4.cell 0
                 have c5_0 := hb5.cell 0
                 go_simp
                 first
                   | exact ⟨rfl, Below.refl _ _⟩
               simp only [Act.put, List.setIfInBounds_toArray, List.set_cons_zero, List.set_cons_succ])
          refine Way.move 8 (by rfl) (by kernel_rfl) (by rfl) (fun V15 hS => ?_)
          have hS' := (SC_2.out _).1 hS
          obtain ⟨hb0, hb1, hb2, hb3, hb4, hb5, hn0, hn1, hn2, hn3, hn4, hn5, hn6, hn7, hB⟩ := hS'
          have c0_0 := hb0.cell 0
          have c1_0 := hb1.cell 0
          have c2_0 := hb2.cell 0
          have c3_0 := hb3.cell 0
          have c3_1 := hb3.cell 1
          have c4_0 := hb4.cell 0
          have c5_0 := hb5.cell 0
          have lt_V15_0 := hb0.lt
          have lt_V15_1 := hb1.lt
          have lt_V15_2 := hb2.lt
          have lt_V15_3 := hb3.lt
          have lt_V15_4 := hb4.lt
          have lt_V15_5 := hb5.lt
          have leB_V15 := Nat.le_trans SCL hB.size
          go_simp
          obtain ⟨S_3, SC_3⟩ : ∃ S_3 : World → Prop, Go.RowKit.Hid (∀ x : World, S_3 x ↔ (Blk x w2.heap.size 42 #[.slice A4 n4 c4] ∧ Blk x g9 42 #[.slice A6 n6 c6] ∧ Blk x g10 42 #[.slice A7 n7 c7] ∧ Blk x u1.heap.size 24 #[wv qh, wv ql] ∧ Blk x u2.heap.size 42 #[.slice A8 n8 c8] ∧ Blk x u6.heap.size 42 #[.slice A10 n10 c10] ∧ (∃ u0, Blk x V15.heap.size 42 #[u0]) ∧ NatL x A4 n4 c4 (M) ∧ NatL x A6 n6 c6 (Q) ∧ NatL x A7 n7 c7 (R) ∧ NatL x A8 n8 c8 (qh) ∧ NatL x A9 n9 c9 (qh) ∧ NatL x A10 n10 c10 (W64 * qh) ∧ NatL x A11 n11 c11 (ql) ∧ NatL x A12 n12 c12 (Q) ∧ Below w.heap.size w x)) := ⟨_, Lib.hid (fun _ => Iff.rfl)⟩
          have hst : Stays S_3 := fun W W' h hb => by obtain ⟨hb0, hb1, hb2, hb3, hb4, hb5, ⟨u6_0, hb6⟩, hn0, hn1, hn2, hn3, hn4, hn5, hn6, hn7, hB⟩ := (SC_3.out _).1 h; exact (SC_3.out _).2 ⟨hb0.st hb, hb1.st hb, hb2.st hb, hb3.st hb, hb4.st hb, hb5.st hb, ⟨u6_0, hb6.st hb⟩, hn0.below hb, hn1.below hb, hn2.below hb, hn3.below hb, hn4.below hb, hn5.below hb, hn6.below hb, hn7.below hb, hB.trans (hb.mono (Nat.le_trans SCL hB.size))⟩
          have hle : ∀ x, S_3 x → S_2 x := fun x h => by obtain ⟨hb0, hb1, hb2, hb3, hb4, hb5, ⟨u6_0, hb6⟩, hn0, hn1, hn2, hn3, hn4, hn5, hn6, hn7, hB⟩ := (SC_3.out _).1 h; exact (SC_2.out _).2 ⟨hb0, hb1, hb2, hb3, hb4, hb5, hn0, hn1, hn2, hn3, hn4, hn5, hn6, hn7, hB⟩
          refine Moved.keep S_3 hst hle ((SC_3.out _).2 ⟨hb0.alloc _, hb1.alloc _, hb2.alloc _, hb3.alloc _, hb4.alloc _, hb5.alloc _, ⟨_, Blk.new V15 _ _⟩, hn0.below (below_new _ _), hn1.below (below_new _ _), hn2.below (below_new _ _), hn3.below (below_new _ _), hn4.below (below_new _ _), hn5.below (below_new _ _), hn6.below (below_new _ _), hn7.below (below_new _ _), hB.alloc (Nat.le_trans SCL hB.size) _⟩) ?_
          clear hst hle
          try simp only [Act.put, List.setIfInBounds_toArray, List.set_cons_zero, List.set_cons_succ]
          refine Way.move 9 (by rfl) (by kernel_rfl) (by rfl) (fun wS hS => ?_)
          have hS' := (SC_3.out _).1 hS
          obtain ⟨hb0, hb1, hb2, hb3, hb4, hb5, ⟨u6_0, hb6⟩, hn0, hn1, hn2, hn3, hn4, hn5, hn6, hn7, hB⟩ := hS'
          have c0_0 := hb0.cell 0
          have c1_0 := hb1.cell 0
          have c2_0 := hb2.cell 0
          have c3_0 := hb3.cell 0
          have c3_1 := hb3.cell 1
          have c4_0 := hb4.cell 0
          have c5_0 := hb5.cell 0
          have c6_0 := hb6.cell 0
          have f6_0 := hb6.frozen 0
          go_simp
          obtain ⟨S_4, SC_4⟩ : ∃ S_4 : World → Prop, Go.RowKit.Hid (∀ x : World, S_4 x ↔ (Blk x w2.heap.size 42 #[.slice A4 n4 c4] ∧ Blk x g9 42 #[.slice A6 n6 c6] ∧ Blk x g10 42 #[.slice A7 n7 c7] ∧ Blk x u1.heap.size 24 #[wv qh, wv ql] ∧ Blk x u2.heap.size 42 #[.slice A8 n8 c8] ∧ Blk x u6.heap.size 42 #[.slice A10 n10 c10] ∧ Blk x V15.heap.size 42 #[.slice A12 n12 c12] ∧ NatL x A4 n4 c4 (M) ∧ NatL x A6 n6 c6 (Q) ∧ NatL x A7 n7 c7 (R) ∧ NatL x A8 n8 c8 (qh) ∧ NatL x A9 n9 c9 (qh) ∧ NatL x A10 n10 c10 (W64 * qh) ∧ NatL x A11 n11 c11 (ql) ∧ NatL x A12 n12 c12 (Q) ∧ Below w.heap.size w x)) := ⟨_, Lib.hid (fun _ => Iff.rfl)⟩
          have hst : Stays S_4 := fun W W' h hb => by obtain ⟨hb0, hb1, hb2, hb3, hb4, hb5, hb6, hn0, hn1, hn2, hn3, hn4, hn5, hn6, hn7, hB⟩ := (SC_4.out _).1 h; exact (SC_4.out _).2 ⟨hb0.st hb, hb1.st hb, hb2.st hb, hb3.st hb, hb4.st hb, hb5.st hb, hb6.st hb, hn0.below hb, hn1.below hb, hn2.below hb, hn3.below hb, hn4.below hb, hn5.below hb, hn6.below hb, hn7.below hb, hB.trans (hb.mono (Nat.le_trans SCL hB.size))⟩
          have hle : ∀ x, S_4 x → S_3 x := fun x h => by obtain ⟨hb0, hb1, hb2, hb3, hb4, hb5, hb6, hn0, hn1, hn2, hn3, hn4, hn5, hn6, hn7, hB⟩ := (SC_4.out _).1 h; exact (SC_3.out _).2 ⟨hb0, hb1, hb2, hb3, hb4, hb5, ⟨_, hb6⟩, hn0, hn1, hn2, hn3, hn4, hn5, hn6, hn7, hB⟩
          refine Moved.keep S_4 hst hle ((SC_4.out _).2 ⟨(hb0.far (by first | (simp; done) | (simp; omega)) _), (hb1.far (by first | (simp; done) | (simp; omega)) _), (hb2.far (by first | (simp; done) | (simp; omega)) _), (hb3.far (by first | (simp; done) | (simp; omega)) _), (hb4.far (by first | (simp; done) | (simp; omega)) _), (hb5.far (by first | (simp; done) | (simp; omega)) _), (hb6.set1 0 _), (hn0.set hb6 (by decide) _), (hn1.set hb6 (by decide) _), (hn2.set hb6 (by decide) _), (hn3.set hb6 (by decide) _), (hn4.set hb6 (by decide) _), (hn5.set hb6 (by decide) _), (hn6.set hb6 (by decide) _), (hn7.set hb6 (by decide) _), (hB.setCell (by first | (simp; done) | (simp; omega)) _)⟩) ?_
          clear hst hle
          try simp only [Act.put, List.setIfInBounds_toArray, List.set_cons_zero, List.set_cons_succ]
          first
            | (refine Way.no 10 (by rfl) (by kernel_rfl) (by rfl) ?_; simp only [Act.put, List.setIfInBounds_toArray, List.set_cons_zero, List.set_cons_succ])
            | (refine' Way.yes 10 (by rfl) (by kernel_rfl) (by rfl) (fun wS hS => ?_) ?_
               rotate_left
               · have hS' := (SC_4.out _).1 hS
                 obtain ⟨hb0, hb1, hb2, hb3, hb4, hb5, hb6, hn0, hn1, hn2, hn3, hn4, hn5, hn6, hn7, hB⟩ := hS'
                 have c0_0 := hb0.cell 0
                 have c1_0 := hb1.cell 0
                 have c2_0 := hb2.cell 0
                 have c3_0 := hb3.cell 0
                 have c3_1 := hb3.cell 1
                 have c4_0 := hb4.cell 0
                 have c5_0 := hb5.cell 0
                 have c6_0 := hb6.cell 0
                 go_simp
                 first
                   | exact ⟨rfl, Below.refl _ _⟩
               simp only [Act.put, List.setIfInBounds_toArray, List.set_cons_zero, List.set_cons_succ])
          refine Way.done (by kernel_rfl) (fun wE hS => ?_)
          have hS' := (SC_4.out _).1 hS
          obtain ⟨hb0, hb1, hb2, hb3, hb4, hb5, hb6, hn0, hn1, hn2, hn3, hn4, hn5, hn6, hn7, hB⟩ := hS'
          have c0_0 := hb0.cell 0
          have c1_0 := hb1.cell 0
          have c2_0 := hb2.cell 0
          have c3_0 := hb3.cell 0
          have c3_1 := hb3.cell 1
          have c4_0 := hb4.cell 0
          have c5_0 := hb5.cell 0
          have c6_0 := hb6.cell 0
          clear hS
          have B0 := Lib.hid hb0
          have B1 := Lib.hid hb1
          have B2 := Lib.hid hb2
          have B3 := Lib.hid hb3
          have B4 := Lib.hid hb4
          have B5 := Lib.hid hb5
          have B6 := Lib.hid hb6
          have N0 := Lib.hid hn0
          have N1 := Lib.hid hn1
          have N2 := Lib.hid hn2
          have N3 := Lib.hid hn3
          have N4 := Lib.hid hn4
          have N5 := Lib.hid hn5
          have N6 := Lib.hid hn6
          have N7 := Lib.hid hn7
          have BB := Lib.hid hB
          clear hB hb0 hb1 hb2 hb3 hb4 hb5 hb6 hn0 hn1 hn2 hn3 hn4 hn5 hn6 hn7
          go_wp2_with fail
          with_reducible refine (same_yes _ _ Q _ (N7.out).w (N1.out).w (Nat.le_trans (small128 HQQ.out) (by decide))).mono ?_
          rintro e u8 ⟨rfl, hb⟩
          clear c0_0 c1_0 c2_0 c3_0 c3_1 c4_0 c5_0 c6_0
          have B0 := Lib.hid (B0.out.st hb)
          have B1 := Lib.hid (B1.out.st hb)
          have B2 := Lib.hid (B2.out.st hb)
          have B3 := Lib.hid (B3.out.st hb)
          have B4 := Lib.hid (B4.out.st hb)
          have B5 := Lib.hid (B5.out.st hb)
          have B6 := Lib.hid (B6.out.st hb)
          have N0 := Lib.hid (N0.out.below hb)
          have N1 := Lib.hid (N1.out.below hb)
          have N2 := Lib.hid (N2.out.below hb)
          have N3 := Lib.hid (N3.out.below hb)
          have N4 := Lib.hid (N4.out.below hb)
          have N5 := Lib.hid (N5.out.below hb)
          have N6 := Lib.hid (N6.out.below hb)
          have N7 := Lib.hid (N7.out.below hb)
          have hbk := keepb BB.out hb
          have BB := Lib.hid hbk
          clear hbk hb 
          have c0_0 := B0.out.cell 0
          have c1_0 := B1.out.cell 0
          have c2_0 := B2.out.cell 0
          have c3_0 := B3.out.cell 0
          have c3_1 := B3.out.cell 1
          have c4_0 := B4.out.cell 0
          have c5_0 := B5.out.cell 0
          have c6_0 := B6.out.cell 0
          go_wp2_with fail
          with_reducible refine (len_nat _ _ _ (N0.out).w (Nat.le_trans HMM.out (by decide))).mono ?_
          rintro e u9 ⟨rfl, hb⟩
          clear c0_0 c1_0 c2_0 c3_0 c3_1 c4_0 c5_0 c6_0
          have B0 := Lib.hid (B0.out.st hb)
          have B1 := Lib.hid (B1.out.st hb)
          have B2 := Lib.hid (B2.out.st hb)
          have B3 := Lib.hid (B3.out.st hb)
          have B4 := Lib.hid (B4.out.st hb)
          have B5 := Lib.hid (B5.out.st hb)
          have B6 := Lib.hid (B6.out.st hb)
          have N0 := Lib.hid (N0.out.below hb)
          have N1 := Lib.hid (N1.out.below hb)
          have N2 := Lib.hid (N2.out.below hb)
          have N3 := Lib.hid (N3.out.below hb)
          have N4 := Lib.hid (N4.out.below hb)
          have N5 := Lib.hid (N5.out.below hb)
          have N6 := Lib.hid (N6.out.below hb)
          have N7 := Lib.hid (N7.out.below hb)
          have hbk := keepb BB.out hb
          have BB := Lib.hid hbk
          clear hbk hb 
          have c0_0 := B0.out.cell 0
          have c1_0 := B1.out.cell 0
          have c2_0 := B2.out.cell 0
          have c3_0 := B3.out.cell 0
          have c3_1 := B3.out.cell 1
          have c4_0 := B4.out.cell 0
          have c5_0 := B5.out.cell 0
          have c6_0 := B6.out.cell 0
          go_wp2_with fail
          with_reducible refine (H9.out _).mono ?_
          rintro e u10 ⟨rfl, hb⟩
          clear c0_0 c1_0 c2_0 c3_0 c3_1 c4_0 c5_0 c6_0
          have B0 := Lib.hid (B0.out.st hb)
          have B1 := Lib.hid (B1.out.st hb)
          have B2 := Lib.hid (B2.out.st hb)
          have B3 := Lib.hid (B3.out.st hb)
          have B4 := Lib.hid (B4.out.st hb)
          have B5 := Lib.hid (B5.out.st hb)
          have B6 := Lib.hid (B6.out.st hb)
          have N0 := Lib.hid (N0.out.below hb)
          have N1 := Lib.hid (N1.out.below hb)
          have N2 := Lib.hid (N2.out.below hb)
          have N3 := Lib.hid (N3.out.below hb)
          have N4 := Lib.hid (N4.out.below hb)
          have N5 := Lib.hid (N5.out.below hb)
          have N6 := Lib.hid (N6.out.below hb)
          have N7 := Lib.hid (N7.out.below hb)
          have hbk := keepb BB.out hb
          have BB := Lib.hid hbk
          clear hbk hb 
          have c0_0 := B0.out.cell 0
          have c1_0 := B1.out.cell 0
          have c2_0 := B2.out.cell 0
          have c3_0 := B3.out.cell 0
          have c3_1 := B3.out.cell 1
          have c4_0 := B4.out.cell 0
          have c5_0 := B5.out.cell 0
          have c6_0 := B6.out.cell 0
          go_wp2_with fail
          go_ret
          exact ⟨rfl, BB.out⟩
        · have hS' := (SC_1.out _).1 hS
          obtain ⟨hb0, hb1, hb2, hb3, hb4, hb5, hn0, hn1, hn2, hn3, hn4, hn5, hn6, hB⟩ := hS'
          have c0_0 := hb0.cell 0
          have c1_0 := hb1.cell 0
          have c2_0 := hb2.cell 0
          have c3_0 := hb3.cell 0
          have c3_1 := hb3.cell 1
          have c4_0 := hb4.cell 0
          have c5_0 := hb5.cell 0
          have lt_V15_0 := hb0.lt
          have lt_V15_1 := hb1.lt
          have lt_V15_2 := hb2.lt
          have lt_V15_3 := hb3.lt
          have lt_V15_4 := hb4.lt
          have lt_V15_5 := hb5.lt
          have leB_V15 := Nat.le_trans SCL hB.size
          go_simp
          obtain ⟨S_5, SC_5⟩ : ∃ S_5 : World → Prop, Go.RowKit.Hid (∀ x : World, S_5 x ↔ (Blk x w2.heap.size 42 #[.slice A4 n4 c4] ∧ Blk x g9 42 #[.slice A6 n6 c6] ∧ Blk x g10 42 #[.slice A7 n7 c7] ∧ Blk x u1.heap.size 24 #[wv qh, wv ql] ∧ Blk x u2.heap.size 42 #[.slice A8 n8 c8] ∧ Blk x u6.heap.size 42 #[.slice A10 n10 c10] ∧ (∃ u0, Blk x V15.heap.size 42 #[u0]) ∧ NatL x A4 n4 c4 (M) ∧ NatL x A6 n6 c6 (Q) ∧ NatL x A7 n7 c7 (R) ∧ NatL x A8 n8 c8 (qh) ∧ NatL x A9 n9 c9 (qh) ∧ NatL x A10 n10 c10 (W64 * qh) ∧ NatL x A11 n11 c11 (ql) ∧ Below w.heap.size w x)) := ⟨_, Lib.hid (fun _ => Iff.rfl)⟩
          have hst : Stays S_5 := fun W W' h hb => by obtain ⟨hb0, hb1, hb2, hb3, hb4, hb5, ⟨u6_0, hb6⟩, hn0, hn1, hn2, hn3, hn4, hn5, hn6, hB⟩ := (SC_5.out _).1 h; exact (SC_5.out _).2 ⟨hb0.st hb, hb1.st hb, hb2.st hb, hb3.st hb, hb4.st hb, hb5.st hb, ⟨u6_0, hb6.st hb⟩, hn0.below hb, hn1.below hb, hn2.below hb, hn3.below hb, hn4.below hb, hn5.below hb, hn6.below hb, hB.trans (hb.mono (Nat.le_trans SCL hB.size))⟩
          have hle : ∀ x, S_5 x → S_1 x := fun x h => by obtain ⟨hb0, hb1, hb2, hb3, hb4, hb5, ⟨u6_0, hb6⟩, hn0, hn1, hn2, hn3, hn4, hn5, hn6, hB⟩ := (SC_5.out _).1 h; exact (SC_1.out _).2 ⟨hb0, hb1, hb2, hb3, hb4, hb5, hn0, hn1, hn2, hn3, hn4, hn5, hn6, hB⟩
          refine Moved.keep S_5 hst hle ((SC_5.out _).2 ⟨hb0.alloc _, hb1.alloc _, hb2.alloc _, hb3.alloc _, hb4.alloc _, hb5.alloc _, ⟨_, Blk.new V15 _ _⟩, hn0.below (below_new _ _), hn1.below (below_new _ _), hn2.below (below_new _ _), hn3.below (below_new _ _), hn4.below (below_new _ _), hn5.below (below_new _ _), hn6.below (below_new _ _), hB.alloc (Nat.le_trans SCL hB.size) _⟩) ?_
          clear hst hle
          try simp only [Act.put, List.setIfInBounds_toArray, List.set_cons_zero, List.set_cons_succ]
          refine Way.move 4 (by rfl) (by kernel_rfl) (by rfl) (fun V14 hS => ?_)
          have hS' := (SC_5.out _).1 hS
          obtain ⟨hb0, hb1, hb2, hb3, hb4, hb5, ⟨u6_0, hb6⟩, hn0, hn1, hn2, hn3, hn4, hn5, hn6, hB⟩ := hS'
          have c0_0 := hb0.cell 0
          have c1_0 := hb1.cell 0
          have c2_0 := hb2.cell 0
          have c3_0 := hb3.cell 0
          have c3_1 := hb3.cell 1
          have c4_0 := hb4.cell 0
          have c5_0 := hb5.cell 0
          have c6_0 := hb6.cell 0
          go_simp
          with_reducible refine (add_any _ _ _ _ _ _ _ _ _ hn5 hn6 (by rw [HE.out]; exact HQQ.out)).mono ?_
          rintro e w14 ⟨A12, n12, c12, rfl, hl, hb⟩
          rw [HE.out] at hl
          refine ⟨_, rfl, ?_⟩
          obtain ⟨S_6, SC_6⟩ : ∃ S_6 : World → Prop, Go.RowKit.Hid (∀ x : World, S_6 x ↔ (Blk x w2.heap.size 42 #[.slice A4 n4 c4] ∧ Blk x g9 42 #[.slice A6 n6 c6] ∧ Blk x g10 42 #[.slice A7 n7 c7] ∧ Blk x u1.heap.size 24 #[wv qh, wv ql] ∧ Blk x u2.heap.size 42 #[.slice A8 n8 c8] ∧ Blk x u6.heap.size 42 #[.slice A10 n10 c10] ∧ (∃ u0, Blk x V15.heap.size 42 #[u0]) ∧ NatL x A4 n4 c4 (M) ∧ NatL x A6 n6 c6 (Q) ∧ NatL x A7 n7 c7 (R) ∧ NatL x A8 n8 c8 (qh) ∧ NatL x A9 n9 c9 (qh) ∧ NatL x A10 n10 c10 (W64 * qh) ∧ NatL x A11 n11 c11 (ql) ∧ NatL x A12 n12 c12 (Q) ∧ Below w.heap.size w x)) := ⟨_, Lib.hid (fun _ => Iff.rfl)⟩
          have hst : Stays S_6 := fun W W' h hb => by obtain ⟨hb0, hb1, hb2, hb3, hb4, hb5, ⟨u6_0, hb6⟩, hn0, hn1, hn2, hn3, hn4, hn5, hn6, hn7, hB⟩ := (SC_6.out _).1 h; exact (SC_6.out _).2 ⟨hb0.st hb, hb1.st hb, hb2.st hb, hb3.st hb, hb4.st hb, hb5.st hb, ⟨u6_0, hb6.st hb⟩, hn0.below hb, hn1.below hb, hn2.below hb, hn3.below hb, hn4.below hb, hn5.below hb, hn6.below hb, hn7.below hb, hB.trans (hb.mono (Nat.le_trans SCL hB.size))⟩
          have hle : ∀ x, S_6 x → S_5 x := fun x h => by obtain ⟨hb0, hb1, hb2, hb3, hb4, hb5, ⟨u6_0, hb6⟩, hn0, hn1, hn2, hn3, hn4, hn5, hn6, hn7, hB⟩ := (SC_6.out _).1 h; exact (SC_5.out _).2 ⟨hb0, hb1, hb2, hb3, hb4, hb5, ⟨u6_0, hb6⟩, hn0, hn1, hn2, hn3, hn4, hn5, hn6, hB⟩
          refine Moved.keep S_6 hst hle ((SC_6.out _).2 ⟨hb0.st hb, hb1.st hb, hb2.st hb, hb3.st hb, hb4.st hb, hb5.st hb, ⟨u6_0, hb6.st hb⟩, hn0.below hb, hn1.below hb, hn2.below hb, hn3.below hb, hn4.below hb, hn5.below hb, hn6.below hb, hl, hB.trans (hb.mono (Nat.le_trans SCL hB.size))⟩) ?_
          clear hst hle
          try simp only [Act.put, List.setIfInBounds_toArray, List.set_cons_zero, List.set_cons_succ]
          first
            | (refine Way.no 5 (by rfl) (by kernel_rfl) (by rfl) ?_; simp only [Act.put, List.setIfInBounds_toArray, List.set_cons_zero, List.set_cons_succ])
            | (refine' Way.yes 5 (by rfl) (by kernel_rfl) (by rfl) (fun wS hS => ?_) ?_
               rotate_left
               · have hS' := (SC_6.out _).1 hS
                 obtain ⟨hb0, hb1, hb2, hb3, hb4, hb5, ⟨u6_0, hb6⟩, hn0, hn1, hn2, hn3, hn4, hn5, hn6, hn7, hB⟩ := hS'
                 have c0_0 := hb0.cell 0
                 have c1_0 := hb1.cell 0
                 have c2_0 := hb2.cell 0
                 have c3_0 := hb3.cell 0
                 have c3_1 := hb3.cell 1
                 have c4_0 := hb4.cell 0
                 have c5_0 := hb5.cell 0
                 have c6_0 := hb6.cell 0
                 go_simp
                 first
                   | exact ⟨rfl, Below.refl _ _⟩
               simp only [Act.put, List.setIfInBounds_toArray, List.set_cons_zero, List.set_cons_succ])
          first
            | (refine Way.no 6 (by rfl) (by kernel_rfl) (by rfl) ?_; simp only [Act.put, List.setIfInBounds_toArray, List.set_cons_zero, List.set_cons_succ])
            | (refine' Way.yes 6 (by rfl) (by kernel_rfl) (by rfl) (fun wS hS => ?_) ?_
               rotate_left
               · have hS' := (SC_6.out _).1 hS
                 obtain ⟨hb0, hb1, hb2, hb3, hb4, hb5, ⟨u6_0, hb6⟩, hn0, hn1, hn2, hn3, hn4, hn5, hn6, hn7, hB⟩ := hS'
                 have c0_0 := hb0.cell 0
                 have c1_0 := hb1.cell 0
                 have c2_0 := hb2.cell 0
                 have c3_0 := hb3.cell 0
                 have c3_1 := hb3.cell 1
                 have c4_0 := hb4.cell 0
                 have c5_0 := hb5.cell 0
                 have c6_0 := hb6.cell 0
                 go_simp
                 first
                   | exact ⟨rfl, Below.refl _ _⟩
               simp only [Act.put, List.setIfInBounds_toArray, List.set_cons_zero, List.set_cons_succ])
          first
            | (refine Way.no 7 (by rfl) (by kernel_rfl) (by rfl) ?_; simp only [Act.put, List.setIfInBounds_toArray, List.set_cons_zero, List.set_cons_succ])
            | (refine' Way.yes 7 (by rfl) (by kernel_rfl) (by rfl) (fun wS hS => ?_) ?_
               rotate_left
               · have hS' := (SC_6.out _).1 hS
                 obtain ⟨hb0, hb1, hb2, hb3, hb4, hb5, ⟨u6_0, hb6⟩, hn0, hn1, hn2, hn3, hn4, hn5, hn6, hn7, hB⟩ := hS'
                 have c0_0 := hb0.cell 0
                 have c1_0 := hb1.cell 0
                 have c2_0 := hb2.cell 0
                 have c3_0 := hb3.cell 0
                 have c3_1 := hb3.cell 1
                 have c4_0 := hb4.cell 0
                 have c5_0 := hb5.cell 0
                 have c6_0 := hb6.cell 0
                 go_simp
                 first
                   | exact ⟨rfl, Below.refl _ _⟩
               simp only [Act.put, List.setIfInBounds_toArray, List.set_cons_zero, List.set_cons_succ])
          refine Way.move 9 (by rfl) (by kernel_rfl) (by rfl) (fun wS hS => ?_)
          have hS' := (SC_6.out _).1 hS
          obtain ⟨hb0, hb1, hb2, hb3, hb4, hb5, ⟨u6_0, hb6⟩, hn0, hn1, hn2, hn3, hn4, hn5, hn6, hn7, hB⟩ := hS'
          have c0_0 := hb0.cell 0
          have c1_0 := hb1.cell 0
          have c2_0 := hb2.cell 0
          have c3_0 := hb3.cell 0
          have c3_1 := hb3.cell 1
          have c4_0 := hb4.cell 0
          have c5_0 := hb5.cell 0
          have c6_0 := hb6.cell 0
          have f6_0 := hb6.frozen 0
          go_simp
          obtain ⟨S_7, SC_7⟩ : ∃ S_7 : World → Prop, Go.RowKit.Hid (∀ x : World, S_7 x ↔ (Blk x w2.heap.size 42 #[.slice A4 n4 c4] ∧ Blk x g9 42 #[.slice A6 n6 c6] ∧ Blk x g10 42 #[.slice A7 n7 c7] ∧ Blk x u1.heap.size 24 #[wv qh, wv ql] ∧ Blk x u2.heap.size 42 #[.slice A8 n8 c8] ∧ Blk x u6.heap.size 42 #[.slice A10 n10 c10] ∧ Blk x V15.heap.size 42 #[.slice A12 n12 c12] ∧ NatL x A4 n4 c4 (M) ∧ NatL x A6 n6 c6 (Q) ∧ NatL x A7 n7 c7 (R) ∧ NatL x A8 n8 c8 (qh) ∧ NatL x A9 n9 c9 (qh) ∧ NatL x A10 n10 c10 (W64 * qh) ∧ NatL x A11 n11 c11 (ql) ∧ NatL x A12 n12 c12 (Q) ∧ Below w.heap.size w x)) := ⟨_, Lib.hid (fun _ => Iff.rfl)⟩
          have hst : Stays S_7 := fun W W' h hb => by obtain ⟨hb0, hb1, hb2, hb3, hb4, hb5, hb6, hn0, hn1, hn2, hn3, hn4, hn5, hn6, hn7, hB⟩ := (SC_7.out _).1 h; exact (SC_7.out _).2 ⟨hb0.st hb, hb1.st hb, hb2.st hb, hb3.st hb, hb4.st hb, hb5.st hb, hb6.st hb, hn0.below hb, hn1.below hb, hn2.below hb, hn3.below hb, hn4.below hb, hn5.below hb, hn6.below hb, hn7.below hb, hB.trans (hb.mono (Nat.le_trans SCL hB.size))⟩
          have hle : ∀ x, S_7 x → S_6 x := fun x h => by obtain ⟨hb0, hb1, hb2, hb3, hb4, hb5, hb6, hn0, hn1, hn2, hn3, hn4, hn5, hn6, hn7, hB⟩ := (SC_7.out _).1 h; exact (SC_6.out _).2 ⟨hb0, hb1, hb2, hb3, hb4, hb5, ⟨_, hb6⟩, hn0, hn1, hn2, hn3, hn4, hn5, hn6, hn7, hB⟩
          refine Moved.keep S_7 hst hle ((SC_7.out _).2 ⟨(hb0.far (by first | (simp; done) | (simp; omega)) _), (hb1.far (by first | (simp; done) | (simp; omega)) _), (hb2.far (by first | (simp; done) | (simp; omega)) _), (hb3.far (by first | (simp; done) | (simp; omega)) _), (hb4.far (by first | (simp; done) | (simp; omega)) _), (hb5.far (by first | (simp; done) | (simp; omega)) _), (hb6.set1 0 _), (hn0.set hb6 (by decide) _), (hn1.set hb6 (by decide) _), (hn2.set hb6 (by decide) _), (hn3.set hb6 (by decide) _), (hn4.set hb6 (by decide) _), (hn5.set hb6 (by decide) _), (hn6.set hb6 (by decide) _), (hn7.set hb6 (by decide) _), (hB.setCell (by first | (simp; done) | (simp; omega)) _)⟩) ?_
          clear hst hle
          try simp only [Act.put, List.setIfInBounds_toArray, List.set_cons_zero, List.set_cons_succ]
          first
            | (refine Way.no 10 (by rfl) (by kernel_rfl) (by rfl) ?_; simp only [Act.put, List.setIfInBounds_toArray, List.set_cons_zero, List.set_cons_succ])
            | (refine' Way.yes 10 (by rfl) (by kernel_rfl) (by rfl) (fun wS hS => ?_) ?_
               rotate_left
               · have hS' := (SC_7.out _).1 hS
                 obtain ⟨hb0, hb1, hb2, hb3, hb4, hb5, hb6, hn0, hn1, hn2, hn3, hn4, hn5, hn6, hn7, hB⟩ := hS'
                 have c0_0 := hb0.cell 0
                 have c1_0 := hb1.cell 0
                 have c2_0 := hb2.cell 0
                 have c3_0 := hb3.cell 0
                 have c3_1 := hb3.cell 1
                 have c4_0 := hb4.cell 0
                 have c5_0 := hb5.cell 0
                 have c6_0 := hb6.cell 0
                 go_simp
                 first
                   | exact ⟨rfl, Below.refl _ _⟩
               simp only [Act.put, List.setIfInBounds_toArray, List.set_cons_zero, List.set_cons_succ])
          refine Way.done (by kernel_rfl) (fun wE hS => ?_)
          have hS' := (SC_7.out _).1 hS
          obtain ⟨hb0, hb1, hb2, hb3, hb4, hb5, hb6, hn0, hn1, hn2, hn3, hn4, hn5, hn6, hn7, hB⟩ := hS'
          have c0_0 := hb0.cell 0
          have c1_0 := hb1.cell 0
          have c2_0 := hb2.cell 0
          have c3_0 := hb3.cell 0
          have c3_1 := hb3.cell 1
          have c4_0 := hb4.cell 0
          have c5_0 := hb5.cell 0
          have c6_0 := hb6.cell 0
          clear hS
          have B0 := Lib.hid hb0
          have B1 := Lib.hid hb1
          have B2 := Lib.hid hb2
          have B3 := Lib.hid hb3
          have B4 := Lib.hid hb4
          have B5 := Lib.hid hb5
          have B6 := Lib.hid hb6
          have N0 := Lib.hid hn0
          have N1 := Lib.hid hn1
          have N2 := Lib.hid hn2
          have N3 := Lib.hid hn3
          have N4 := Lib.hid hn4
          have N5 := Lib.hid hn5
          have N6 := Lib.hid hn6
          have N7 := Lib.hid hn7
          have BB := Lib.hid hB
          clear hB hb0 hb1 hb2 hb3 hb4 hb5 hb6 hn0 hn1 hn2 hn3 hn4 hn5 hn6 hn7
          go_wp2_with fail
          with_reducible refine (same_yes _ _ Q _ (N7.out).w (N1.out).w (Nat.le_trans (small128 HQQ.out) (by decide))).mono ?_
          rintro e u8 ⟨rfl, hb⟩
          clear c0_0 c1_0 c2_0 c3_0 c3_1 c4_0 c5_0 c6_0
          have B0 := Lib.hid (B0.out.st hb)
          have B1 := Lib.hid (B1.out.st hb)
          have B2 := Lib.hid (B2.out.st hb)
          have B3 := Lib.hid (B3.out.st hb)
          have B4 := Lib.hid (B4.out.st hb)
          have B5 := Lib.hid (B5.out.st hb)
          have B6 := Lib.hid (B6.out.st hb)
          have N0 := Lib.hid (N0.out.below hb)
          have N1 := Lib.hid (N1.out.below hb)
          have N2 := Lib.hid (N2.out.below hb)
          have N3 := Lib.hid (N3.out.below hb)
          have N4 := Lib.hid (N4.out.below hb)
          have N5 := Lib.hid (N5.out.below hb)
          have N6 := Lib.hid (N6.out.below hb)
          have N7 := Lib.hid (N7.out.below hb)
          have hbk := keepb BB.out hb
          have BB := Lib.hid hbk
          clear hbk hb 
          have c0_0 := B0.out.cell 0
          have c1_0 := B1.out.cell 0
          have c2_0 := B2.out.cell 0
          have c3_0 := B3.out.cell 0
          have c3_1 := B3.out.cell 1
          have c4_0 := B4.out.cell 0
          have c5_0 := B5.out.cell 0
          have c6_0 := B6.out.cell 0
          go_wp2_with fail
          with_reducible refine (len_nat _ _ _ (N0.out).w (Nat.le_trans HMM.out (by decide))).mono ?_
          rintro e u9 ⟨rfl, hb⟩
          clear c0_0 c1_0 c2_0 c3_0 c3_1 c4_0 c5_0 c6_0
          have B0 := Lib.hid (B0.out.st hb)
          have B1 := Lib.hid (B1.out.st hb)
          have B2 := Lib.hid (B2.out.st hb)
          have B3 := Lib.hid (B3.out.st hb)
          have B4 := Lib.hid (B4.out.st hb)
          have B5 := Lib.hid (B5.out.st hb)
          have B6 := Lib.hid (B6.out.st hb)
          have N0 := Lib.hid (N0.out.below hb)
          have N1 := Lib.hid (N1.out.below hb)
          have N2 := Lib.hid (N2.out.below hb)
          have N3 := Lib.hid (N3.out.below hb)
          have N4 := Lib.hid (N4.out.below hb)
          have N5 := Lib.hid (N5.out.below hb)
          have N6 := Lib.hid (N6.out.below hb)
          have N7 := Lib.hid (N7.out.below hb)
          have hbk := keepb BB.out hb
          have BB := Lib.hid hbk
          clear hbk hb 
          have c0_0 := B0.out.cell 0
          have c1_0 := B1.out.cell 0
          have c2_0 := B2.out.cell 0
          have c3_0 := B3.out.cell 0
          have c3_1 := B3.out.cell 1
          have c4_0 := B4.out.cell 0
          have c5_0 := B5.out.cell 0
          have c6_0 := B6.out.cell 0
          go_wp2_with fail
          with_reducible refine (H9.out _).mono ?_
          rintro e u10 ⟨rfl, hb⟩
          clear c0_0 c1_0 c2_0 c3_0 c3_1 c4_0 c5_0 c6_0
          have B0 := Lib.hid (B0.out.st hb)
          have B1 := Lib.hid (B1.out.st hb)
          have B2 := Lib.hid (B2.out.st hb)
          have B3 := Lib.hid (B3.out.st hb)
          have B4 := Lib.hid (B4.out.st hb)
          have B5 := Lib.hid (B5.out.st hb)
          have B6 := Lib.hid (B6.out.st hb)
          have N0 := Lib.hid (N0.out.below hb)
          have N1 := Lib.hid (N1.out.below hb)
          have N2 := Lib.hid (N2.out.below hb)
          have N3 := Lib.hid (N3.out.below hb)
          have N4 := Lib.hid (N4.out.below hb)
          have N5 := Lib.hid (N5.out.below hb)
          have N6 := Lib.hid (N6.out.below hb)
          have N7 := Lib.hid (N7.out.below hb)
          have hbk := keepb BB.out hb
          have BB := Lib.hid hbk
          clear hbk hb 
          have c0_0 := B0.out.cell 0
          have c1_0 := B1.out.cell 0
          have c2_0 := B2.out.cell 0
          have c3_0 := B3.out.cell 0
          have c3_1 := B3.out.cell 1
          have c4_0 := B4.out.cell 0
          have c5_0 := B5.out.cell 0
          have c6_0 := B6.out.cell 0
          go_wp2_with fail
          go_ret
          exact ⟨rfl, BB.out⟩
      · have hS' := (SC.out _).1 hS
        obtain ⟨hb0, hb1, hb2, hb3, hb4, hb5, hn0, hn1, hn2, hn3, hn4, hn5, hB⟩ := hS'
        have c0_0 := hb0.cell 0
        have c1_0 := hb1.cell 0
        have c2_0 := hb2.cell 0
        have c3_0 := hb3.cell 0
        have c3_1 := hb3.cell 1
        have c4_0 := hb4.cell 0
        have c5_0 := hb5.cell 0
        have lt_V15_0 := hb0.lt
        have lt_V15_1 := hb1.lt
        have lt_V15_2 := hb2.lt
        have lt_V15_3 := hb3.lt
        have lt_V15_4 := hb4.lt
        have lt_V15_5 := hb5.lt
        have leB_V15 := Nat.le_trans SCL hB.size
        go_simp
        obtain ⟨S_8, SC_8⟩ : ∃ S_8 : World → Prop, Go.RowKit.Hid (∀ x : World, S_8 x ↔ (Blk x w2.heap.size 42 #[.slice A4 n4 c4] ∧ Blk x g9 42 #[.slice A6 n6 c6] ∧ Blk x g10 42 #[.slice A7 n7 c7] ∧ Blk x u1.heap.size 24 #[wv qh, wv ql] ∧ Blk x u2.heap.size 42 #[.slice A8 n8 c8] ∧ Blk x u6.heap.size 42 #[.slice A10 n10 c10] ∧ (∃ u0, Blk x V15.heap.size 42 #[u0]) ∧ NatL x A4 n4 c4 (M) ∧ NatL x A6 n6 c6 (Q) ∧ NatL x A7 n7 c7 (R) ∧ NatL x A8 n8 c8 (qh) ∧ NatL x A9 n9 c9 (qh) ∧ NatL x A10 n10 c10 (W64 * qh) ∧ Below w.heap.size w x)) := ⟨_, Lib.hid (fun _ => Iff.rfl)⟩
        have hst : Stays S_8 := fun W W' h hb => by obtain ⟨hb0, hb1, hb2, hb3, hb4, hb5, ⟨u6_0, hb6⟩, hn0, hn1, hn2, hn3, hn4, hn5, hB⟩ := (SC_8.out _).1 h; exact (SC_8.out _).2 ⟨hb0.st hb, hb1.st hb, hb2.st hb, hb3.st hb, hb4.st hb, hb5.st hb, ⟨u6_0, hb6.st hb⟩, hn0.below hb, hn1.below hb, hn2.below hb, hn3.below hb, hn4.below hb, hn5.below hb, hB.trans (hb.mono (Nat.le_trans SCL hB.size))⟩
        have hle : ∀ x, S_8 x → S x := fun x h => by obtain ⟨hb0, hb1, hb2, hb3, hb4, hb5, ⟨u6_0, hb6⟩, hn0, hn1, hn2, hn3, hn4, hn5, hB⟩ := (SC_8.out _).1 h; exact (SC.out _).2 ⟨hb0, hb1, hb2, hb3, hb4, hb5, hn0, hn1, hn2, hn3, hn4, hn5, hB⟩
        refine Moved.keep S_8 hst hle ((SC_8.out _).2 ⟨hb0.alloc _, hb1.alloc _, hb2.alloc _, hb3.alloc _, hb4.alloc _, hb5.alloc _, ⟨_, Blk.new V15 _ _⟩, hn0.below (below_new _ _), hn1.below (below_new _ _), hn2.below (below_new _ _), hn3.below (below_new _ _), hn4.below (below_new _ _), hn5.below (below_new _ _), hB.alloc (Nat.le_trans SCL hB.size) _⟩) ?_
        clear hst hle
        try simp only [Act.put, List.setIfInBounds_toArray, List.set_cons_zero, List.set_cons_succ]
        refine Way.move 3 (by rfl) (by kernel_rfl) (by rfl) (fun V13 hS => ?_)
        have hS' := (SC_8.out _).1 hS
        obtain ⟨hb0, hb1, hb2, hb3, hb4, hb5, ⟨u6_0, hb6⟩, hn0, hn1, hn2, hn3, hn4, hn5, hB⟩ := hS'
        have c0_0 := hb0.cell 0
        have c1_0 := hb1.cell 0
        have c2_0 := hb2.cell 0
        have c3_0 := hb3.cell 0
        have c3_1 := hb3.cell 1
        have c4_0 := hb4.cell 0
        have c5_0 := hb5.cell 0
        have c6_0 := hb6.cell 0
        go_simp
        with_reducible refine (of_any ql _ HLO2.out).mono ?_
        rintro e w13 ⟨A11, n11, c11, rfl, hl, hb⟩
        refine ⟨_, rfl, ?_⟩
        obtain ⟨S_9, SC_9⟩ : ∃ S_9 : World → Prop, Go.RowKit.Hid (∀ x : World, S_9 x ↔ (Blk x w2.heap.size 42 #[.slice A4 n4 c4] ∧ Blk x g9 42 #[.slice A6 n6 c6] ∧ Blk x g10 42 #[.slice A7 n7 c7] ∧ Blk x u1.heap.size 24 #[wv qh, wv ql] ∧ Blk x u2.heap.size 42 #[.slice A8 n8 c8] ∧ Blk x u6.heap.size 42 #[.slice A10 n10 c10] ∧ (∃ u0, Blk x V15.heap.size 42 #[u0]) ∧ NatL x A4 n4 c4 (M) ∧ NatL x A6 n6 c6 (Q) ∧ NatL x A7 n7 c7 (R) ∧ NatL x A8 n8 c8 (qh) ∧ NatL x A9 n9 c9 (qh) ∧ NatL x A10 n10 c10 (W64 * qh) ∧ NatL x A11 n11 c11 (ql) ∧ Below w.heap.size w x)) := ⟨_, Lib.hid (fun _ => Iff.rfl)⟩
        have hst : Stays S_9 := fun W W' h hb => by obtain ⟨hb0, hb1, hb2, hb3, hb4, hb5, ⟨u6_0, hb6⟩, hn0, hn1, hn2, hn3, hn4, hn5, hn6, hB⟩ := (SC_9.out _).1 h; exact (SC_9.out _).2 ⟨hb0.st hb, hb1.st hb, hb2.st hb, hb3.st hb, hb4.st hb, hb5.st hb, ⟨u6_0, hb6.st hb⟩, hn0.below hb, hn1.below hb, hn2.below hb, hn3.below hb, hn4.below hb, hn5.below hb, hn6.below hb, hB.trans (hb.mono (Nat.le_trans SCL hB.size))⟩
        have hle : ∀ x, S_9 x → S_8 x := fun x h => by obtain ⟨hb0, hb1, hb2, hb3, hb4, hb5, ⟨u6_0, hb6⟩, hn0, hn1, hn2, hn3, hn4, hn5, hn6, hB⟩ := (SC_9.out _).1 h; exact (SC_8.out _).2 ⟨hb0, hb1, hb2, hb3, hb4, hb5, ⟨u6_0, hb6⟩, hn0, hn1, hn2, hn3, hn4, hn5, hB⟩
        refine Moved.keep S_9 hst hle ((SC_9.out _).2 ⟨hb0.st hb, hb1.st hb, hb2.st hb, hb3.st hb, hb4.st hb, hb5.st hb, ⟨u6_0, hb6.st hb⟩, hn0.below hb, hn1.below hb, hn2.below hb, hn3.below hb, hn4.below hb, hn5.below hb, hl, hB.trans (hb.mono (Nat.le_trans SCL hB.size))⟩) ?_
        clear hst hle
        try simp only [Act.put, List.setIfInBounds_toArray, List.set_cons_zero, List.set_cons_succ]
        refine Way.move 4 (by rfl) (by kernel_rfl) (by rfl) (fun V14 hS => ?_)
        have hS' := (SC_9.out _).1 hS
        obtain ⟨hb0, hb1, hb2, hb3, hb4, hb5, ⟨u6_0, hb6⟩, hn0, hn1, hn2, hn3, hn4, hn5, hn6, hB⟩ := hS'
        have c0_0 := hb0.cell 0
        have c1_0 := hb1.cell 0
        have c2_0 := hb2.cell 0
        have c3_0 := hb3.cell 0
        have c3_1 := hb3.cell 1
        have c4_0 := hb4.cell 0
        have c5_0 := hb5.cell 0
        have c6_0 := hb6.cell 0
        go_simp
        with_reducible refine (add_any _ _ _ _ _ _ _ _ _ hn5 hn6 (by rw [HE.out]; exact HQQ.out)).mono ?_
        rintro e w14 ⟨A12, n12, c12, rfl, hl, hb⟩
        rw [HE.out] at hl
        refine ⟨_, rfl, ?_⟩
        obtain ⟨S_10, SC_10⟩ : ∃ S_10 : World → Prop, Go.RowKit.Hid (∀ x : World, S_10 x ↔ (Blk x w2.heap.size 42 #[.slice A4 n4 c4] ∧ Blk x g9 42 #[.slice A6 n6 c6] ∧ Blk x g10 42 #[.slice A7 n7 c7] ∧ Blk x u1.heap.size 24 #[wv qh, wv ql] ∧ Blk x u2.heap.size 42 #[.slice A8 n8 c8] ∧ Blk x u6.heap.size 42 #[.slice A10 n10 c10] ∧ (∃ u0, Blk x V15.heap.size 42 #[u0]) ∧ NatL x A4 n4 c4 (M) ∧ NatL x A6 n6 c6 (Q) ∧ NatL x A7 n7 c7 (R) ∧ NatL x A8 n8 c8 (qh) ∧ NatL x A9 n9 c9 (qh) ∧ NatL x A10 n10 c10 (W64 * qh) ∧ NatL x A11 n11 c11 (ql) ∧ NatL x A12 n12 c12 (Q) ∧ Below w.heap.size w x)) := ⟨_, Lib.hid (fun _ => Iff.rfl)⟩
        have hst : Stays S_10 := fun W W' h hb => by obtain ⟨hb0, hb1, hb2, hb3, hb4, hb5, ⟨u6_0, hb6⟩, hn0, hn1, hn2, hn3, hn4, hn5, hn6, hn7, hB⟩ := (SC_10.out _).1 h; exact (SC_10.out _).2 ⟨hb0.st hb, hb1.st hb, hb2.st hb, hb3.st hb, hb4.st hb, hb5.st hb, ⟨u6_0, hb6.st hb⟩, hn0.below hb, hn1.below hb, hn2.below hb, hn3.below hb, hn4.below hb, hn5.below hb, hn6.below hb, hn7.below hb, hB.trans (hb.mono (Nat.le_trans SCL hB.size))⟩
        have hle : ∀ x, S_10 x → S_9 x := fun x h => by obtain ⟨hb0, hb1, hb2, hb3, hb4, hb5, ⟨u6_0, hb6⟩, hn0, hn1, hn2, hn3, hn4, hn5, hn6, hn7, hB⟩ := (SC_10.out _).1 h; exact (SC_9.out _).2 ⟨hb0, hb1, hb2, hb3, hb4, hb5, ⟨u6_0, hb6⟩, hn0, hn1, hn2, hn3, hn4, hn5, hn6, hB⟩
        refine Moved.keep S_10 hst hle ((SC_10.out _).2 ⟨hb0.st hb, hb1.st hb, hb2.st hb, hb3.st hb, hb4.st hb, hb5.st hb, ⟨u6_0, hb6.st hb⟩, hn0.below hb, hn1.below hb, hn2.below hb, hn3.below hb, hn4.below hb, hn5.below hb, hn6.below hb, hl, hB.trans (hb.mono (Nat.le_trans SCL hB.size))⟩) ?_
        clear hst hle
        try simp only [Act.put, List.setIfInBounds_toArray, List.set_cons_zero, List.set_cons_succ]
        first
          | (refine Way.no 5 (by rfl) (by kernel_rfl) (by rfl) ?_; simp only [Act.put, List.setIfInBounds_toArray, List.set_cons_zero, List.set_cons_succ])
          | (refine' Way.yes 5 (by rfl) (by kernel_rfl) (by rfl) (fun wS hS => ?_) ?_
             rotate_left
             · have hS' := (SC_10.out _).1 hS
               obtain ⟨hb0, hb1, hb2, hb3, hb4, hb5, ⟨u6_0, hb6⟩, hn0, hn1, hn2, hn3, hn4, hn5, hn6, hn7, hB⟩ := hS'
               have c0_0 := hb0.cell 0
               have c1_0 := hb1.cell 0
               have c2_0 := hb2.cell 0
               have c3_0 := hb3.cell 0
               have c3_1 := hb3.cell 1
               have c4_0 := hb4.cell 0
               have c5_0 := hb5.cell 0
               have c6_0 := hb6.cell 0
               go_simp
               first
                 | exact ⟨rfl, Below.refl _ _⟩
             simp only [Act.put, List.setIfInBounds_toArray, List.set_cons_zero, List.set_cons_succ])
        first
          | (refine Way.no 6 (by rfl) (by kernel_rfl) (by rfl) ?_; simp only [Act.put, List.setIfInBounds_toArray, List.set_cons_zero, List.set_cons_succ])
          | (refine' Way.yes 6 (by rfl) (by kernel_rfl) (by rfl) (fun wS hS => ?_) ?_
             rotate_left
             · have hS' := (SC_10.out _).1 hS
               obtain ⟨hb0, hb1, hb2, hb3, hb4, hb5, ⟨u6_0, hb6⟩, hn0, hn1, hn2, hn3, hn4, hn5, hn6, hn7, hB⟩ := hS'
               have c0_0 := hb0.cell 0
               have c1_0 := hb1.cell 0
               have c2_0 := hb2.cell 0
               have c3_0 := hb3.cell 0
               have c3_1 := hb3.cell 1
               have c4_0 := hb4.cell 0
               have c5_0 := hb5.cell 0
               have c6_0 := hb6.cell 0
               go_simp
               first
                 | exact ⟨rfl, Below.refl _ _⟩
             simp only [Act.put, List.setIfInBounds_toArray, List.set_cons_zero, List.set_cons_succ])
        first
          | (refine Way.no 7 (by rfl) (by kernel_rfl) (by rfl) ?_; simp only [Act.put, List.setIfInBounds_toArray, List.set_cons_zero, List.set_cons_succ])
          | (refine' Way.yes 7 (by rfl) (by kernel_rfl) (by rfl) (fun wS hS => ?_) ?_
             rotate_left
             · have hS' := (SC_10.out _).1 hS
               obtain ⟨hb0, hb1, hb2, hb3, hb4, hb5, ⟨u6_0, hb6⟩, hn0, hn1, hn2, hn3, hn4, hn5, hn6, hn7, hB⟩ := hS'
               have c0_0 := hb0.cell 0
               have c1_0 := hb1.cell 0
               have c2_0 := hb2.cell 0
               have c3_0 := hb3.cell 0
               have c3_1 := hb3.cell 1
               have c4_0 := hb4.cell 0
               have c5_0 := hb5.cell 0
               have c6_0 := hb6.cell 0
               go_simp
               first
                 | exact ⟨rfl, Below.refl _ _⟩
             simp only [Act.put, List.setIfInBounds_toArray, List.set_cons_zero, List.set_cons_succ])
        refine Way.move 9 (by rfl) (by kernel_rfl) (by rfl) (fun wS hS => ?_)
        have hS' := (SC_10.out _).1 hS
        obtain ⟨hb0, hb1, hb2, hb3, hb4, hb5, ⟨u6_0, hb6⟩, hn0, hn1, hn2, hn3, hn4, hn5, hn6, hn7, hB⟩ := hS'
        have c0_0 := hb0.cell 0
        have c1_0 := hb1.cell 0
        have c2_0 := hb2.cell 0
        have c3_0 := hb3.cell 0
        have c3_1 := hb3.cell 1
        have c4_0 := hb4.cell 0
        have c5_0 := hb5.cell 0
        have c6_0 := hb6.cell 0
        have f6_0 := hb6.frozen 0
        go_simp
        obtain ⟨S_11, SC_11⟩ : ∃ S_11 : World → Prop, Go.RowKit.Hid (∀ x : World, S_11 x ↔ (Blk x w2.heap.size 42 #[.slice A4 n4 c4] ∧ Blk x g9 42 #[.slice A6 n6 c6] ∧ Blk x g10 42 #[.slice A7 n7 c7] ∧ Blk x u1.heap.size 24 #[wv qh, wv ql] ∧ Blk x u2.heap.size 42 #[.slice A8 n8 c8] ∧ Blk x u6.heap.size 42 #[.slice A10 n10 c10] ∧ Blk x V15.heap.size 42 #[.slice A12 n12 c12] ∧ NatL x A4 n4 c4 (M) ∧ NatL x A6 n6 c6 (Q) ∧ NatL x A7 n7 c7 (R) ∧ NatL x A8 n8 c8 (qh) ∧ NatL x A9 n9 c9 (qh) ∧ NatL x A10 n10 c10 (W64 * qh) ∧ NatL x A11 n11 c11 (ql) ∧ NatL x A12 n12 c12 (Q) ∧ Below w.heap.size w x)) := ⟨_, Lib.hid (fun _ => Iff.rfl)⟩
        have hst : Stays S_11 := fun W W' h hb => by obtain ⟨hb0, hb1, hb2, hb3, hb4, hb5, hb6, hn0, hn1, hn2, hn3, hn4, hn5, hn6, hn7, hB⟩ := (SC_11.out _).1 h; exact (SC_11.out _).2 ⟨hb0.st hb, hb1.st hb, hb2.st hb, hb3.st hb, hb4.st hb, hb5.st hb, hb6.st hb, hn0.below hb, hn1.below hb, hn2.below hb, hn3.below hb, hn4.below hb, hn5.below hb, hn6.below hb, hn7.below hb, hB.trans (hb.mono (Nat.le_trans SCL hB.size))⟩
        have hle : ∀ x, S_11 x → S_10 x := fun x h => by obtain ⟨hb0, hb1, hb2, hb3, hb4, hb5, hb6, hn0, hn1, hn2, hn3, hn4, hn5, hn6, hn7, hB⟩ := (SC_11.out _).1 h; exact (SC_10.out _).2 ⟨hb0, hb1, hb2, hb3, hb4, hb5, ⟨_, hb6⟩, hn0, hn1, hn2, hn3, hn4, hn5, hn6, hn7, hB⟩
        refine Moved.keep S_11 hst hle ((SC_11.out _).2 ⟨(hb0.far (by first | (simp; done) | (simp; omega)) _), (hb1.far (by first | (simp; done) | (simp; omega)) _), (hb2.far (by first | (simp; done) | (simp; omega)) _), (hb3.far (by first | (simp; done) | (simp; omega)) _), (hb4.far (by first | (simp; done) | (simp; omega)) _), (hb5.far (by first | (simp; done) | (simp; omega)) _), (hb6.set1 0 _), (hn0.set hb6 (by decide) _), (hn1.set hb6 (by decide) _), (hn2.set hb6 (by decide) _), (hn3.set hb6 (by decide) _), (hn4.set hb6 (by decide) _), (hn5.set hb6 (by decide) _), (hn6.set hb6 (by decide) _), (hn7.set hb6 (by decide) _), (hB.setCell (by first | (simp; done) | (simp; omega)) _)⟩) ?_
        clear hst hle
        try simp only [Act.put, List.setIfInBounds_toArray, List.set_cons_zero, List.set_cons_succ]
        first
          | (refine Way.no 10 (by rfl) (by kernel_rfl) (by rfl) ?_; simp only [Act.put, List.setIfInBounds_toArray, List.set_cons_zero, List.set_cons_succ])
          | (refine' Way.yes 10 (by rfl) (by kernel_rfl) (by rfl) (fun wS hS => ?_) ?_
             rotate_left
             · have hS' := (SC_11.out _).1 hS
               obtain ⟨hb0, hb1, hb2, hb3, hb4, hb5, hb6, hn0, hn1, hn2, hn3, hn4, hn5, hn6, hn7, hB⟩ := hS'
               have c0_0 := hb0.cell 0
               have c1_0 := hb1.cell 0
               have c2_0 := hb2.cell 0
               have c3_0 := hb3.cell 0
               have c3_1 := hb3.cell 1
               have c4_0 := hb4.cell 0
               have c5_0 := hb5.cell 0
               have c6_0 := hb6.cell 0
               go_simp
               first
                 | exact ⟨rfl, Below.refl _ _⟩
             simp only [Act.put, List.setIfInBounds_toArray, List.set_cons_zero, List.set_cons_succ])
        refine Way.done (by kernel_rfl) (fun wE hS => ?_)
        have hS' := (SC_11.out _).1 hS
        obtain ⟨hb0, hb1, hb2, hb3, hb4, hb5, hb6, hn0, hn1, hn2, hn3, hn4, hn5, hn6, hn7, hB⟩ := hS'
        have c0_0 := hb0.cell 0
        have c1_0 := hb1.cell 0
        have c2_0 := hb2.cell 0
        have c3_0 := hb3.cell 0
        have c3_1 := hb3.cell 1
        have c4_0 := hb4.cell 0
        have c5_0 := hb5.cell 0
        have c6_0 := hb6.cell 0
        clear hS
        have B0 := Lib.hid hb0
        have B1 := Lib.hid hb1
        have B2 := Lib.hid hb2
        have B3 := Lib.hid hb3
        have B4 := Lib.hid hb4
        have B5 := Lib.hid hb5
        have B6 := Lib.hid hb6
        have N0 := Lib.hid hn0
        have N1 := Lib.hid hn1
        have N2 := Lib.hid hn2
        have N3 := Lib.hid hn3
        have N4 := Lib.hid hn4
        have N5 := Lib.hid hn5
        have N6 := Lib.hid hn6
        have N7 := Lib.hid hn7
        have BB := Lib.hid hB
        clear hB hb0 hb1 hb2 hb3 hb4 hb5 hb6 hn0 hn1 hn2 hn3 hn4 hn5 hn6 hn7
        go_wp2_with fail
        with_reducible refine (same_yes _ _ Q _ (N7.out).w (N1.out).w (Nat.le_trans (small128 HQQ.out) (by decide))).mono ?_
        rintro e u8 ⟨rfl, hb⟩
        clear c0_0 c1_0 c2_0 c3_0 c3_1 c4_0 c5_0 c6_0
        have B0 := Lib.hid (B0.out.st hb)
        have B1 := Lib.hid (B1.out.st hb)
        have B2 := Lib.hid (B2.out.st hb)
        have B3 := Lib.hid (B3.out.st hb)
        have B4 := Lib.hid (B4.out.st hb)
        have B5 := Lib.hid (B5.out.st hb)
        have B6 := Lib.hid (B6.out.st hb)
        have N0 := Lib.hid (N0.out.below hb)
        have N1 := Lib.hid (N1.out.below hb)
        have N2 := Lib.hid (N2.out.below hb)
        have N3 := Lib.hid (N3.out.below hb)
        have N4 := Lib.hid (N4.out.below hb)
        have N5 := Lib.hid (N5.out.below hb)
        have N6 := Lib.hid (N6.out.below hb)
        have N7 := Lib.hid (N7.out.below hb)
        have hbk := keepb BB.out hb
        have BB := Lib.hid hbk
        clear hbk hb 
        have c0_0 := B0.out.cell 0
        have c1_0 := B1.out.cell 0
        have c2_0 := B2.out.cell 0
        have c3_0 := B3.out.cell 0
        have c3_1 := B3.out.cell 1
        have c4_0 := B4.out.cell 0
        have c5_0 := B5.out.cell 0
        have c6_0 := B6.out.cell 0
        go_wp2_with fail
        with_reducible refine (len_nat _ _ _ (N0.out).w (Nat.le_trans HMM.out (by decide))).mono ?_
        rintro e u9 ⟨rfl, hb⟩
        clear c0_0 c1_0 c2_0 c3_0 c3_1 c4_0 c5_0 c6_0
        have B0 := Lib.hid (B0.out.st hb)
        have B1 := Lib.hid (B1.out.st hb)
        have B2 := Lib.hid (B2.out.st hb)
        have B3 := Lib.hid (B3.out.st hb)
        have B4 := Lib.hid (B4.out.st hb)
        have B5 := Lib.hid (B5.out.st hb)
        have B6 := Lib.hid (B6.out.st hb)
        have N0 := Lib.hid (N0.out.below hb)
        have N1 := Lib.hid (N1.out.below hb)
        have N2 := Lib.hid (N2.out.below hb)
        have N3 := Lib.hid (N3.out.below hb)
        have N4 := Lib.hid (N4.out.below hb)
        have N5 := Lib.hid (N5.out.below hb)
        have N6 := Lib.hid (N6.out.below hb)
        have N7 := Lib.hid (N7.out.below hb)
        have hbk := keepb BB.out hb
        have BB := Lib.hid hbk
        clear hbk hb 
        have c0_0 := B0.out.cell 0
        have c1_0 := B1.out.cell 0
        have c2_0 := B2.out.cell 0
        have c3_0 := B3.out.cell 0
        have c3_1 := B3.out.cell 1
        have c4_0 := B4.out.cell 0
        have c5_0 := B5.out.cell 0
        have c6_0 := B6.out.cell 0
        go_wp2_with fail
        with_reducible refine (H9.out _).mono ?_
        rintro e u10 ⟨rfl, hb⟩
        clear c0_0 c1_0 c2_0 c3_0 c3_1 c4_0 c5_0 c6_0
        have B0 := Lib.hid (B0.out.st hb)
        have B1 := Lib.hid (B1.out.st hb)
        have B2 := Lib.hid (B2.out.st hb)
        have B3 := Lib.hid (B3.out.st hb)
        have B4 := Lib.hid (B4.out.st hb)
        have B5 := Lib.hid (B5.out.st hb)
        have B6 := Lib.hid (B6.out.st hb)
        have N0 := Lib.hid (N0.out.below hb)
        have N1 := Lib.hid (N1.out.below hb)
        have N2 := Lib.hid (N2.out.below hb)
        have N3 := Lib.hid (N3.out.below hb)
        have N4 := Lib.hid (N4.out.below hb)
        have N5 := Lib.hid (N5.out.below hb)
        have N6 := Lib.hid (N6.out.below hb)
        have N7 := Lib.hid (N7.out.below hb)
        have hbk := keepb BB.out hb
        have BB := Lib.hid hbk
        clear hbk hb 
        have c0_0 := B0.out.cell 0
        have c1_0 := B1.out.cell 0
        have c2_0 := B2.out.cell 0
        have c3_0 := B3.out.cell 0
        have c3_1 := B3.out.cell 1
        have c4_0 := B4.out.cell 0
        have c5_0 := B5.out.cell 0
        have c6_0 := B6.out.cell 0
        go_wp2_with fail
        go_ret
        exact ⟨rfl, BB.out⟩

theorem walk (a0 : Int) (a1 : Int) (a2 : Int) (w : World) (w0 : (Lit.int .u64 a0).wf = true) (w1 : (Lit.int .u64 a1).wf = true) (w2 : (Lit.int .u64 a2).wf = true) :
    Calls Tryd.prog 10 #[.int .u64 a0, .int .u64 a1, .int .u64 a2] w fun e w' => e = .returned (.bool true) ∧ Below w.heap.size w w' := by
  have b0 := bounds_u64 w0
  have b1 := bounds_u64 w1
  have b2 := bounds_u64 w2
  obtain ⟨n0, rfl⟩ := Int.eq_ofNat_of_zero_le b0.1
  obtain ⟨n1, rfl⟩ := Int.eq_ofNat_of_zero_le b1.1
  obtain ⟨n2, rfl⟩ := Int.eq_ofNat_of_zero_le b2.1
  rcases Nat.eq_zero_or_pos n2 with h | h
  · exact walkZ n0 n1 n2 h (by unfold W64; omega) (by unfold W64; omega) (by unfold W64; omega) w
  · exact walkP n0 n1 n2 h (by unfold W64; omega) (by unfold W64; omega) (by unfold W64; omega) w
end Go.Proofs.YtnghcpgdfkchdaaDoor.wideAlike
