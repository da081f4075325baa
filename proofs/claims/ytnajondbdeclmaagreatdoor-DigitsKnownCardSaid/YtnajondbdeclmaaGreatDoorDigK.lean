/- The program's digits: the exact form of a number (form); all digits (Exact); from where to where numbers round to a float (Around). -/
import Derived.Test.YtnajondbdeclmaaGreatDoorDigT
import Derived.Test.YtnajondbdeclmaaGreatDoorDigE
import Derived.Test.YtnajondbdeclmaaGreatDoorDigJ
namespace Go.Proofs.YtnajondbdeclmaaGreatDoor
open Go.RowKit
attribute [local go_sem] SGives_value SGives_skip SGives_enter CGives_value CGives_skip CGives_enter MGives_value MGives_skip MGives_enter
set_option linter.unusedSimpArgs false
set_option linter.unusedVariables false

theorem trimR_d (s : List UInt8) (hs : s.length ≤ 1000000000) (w : World) :
    Calls Tryz.prog 102 #[.string ⟨s.toArray⟩, .string ⟨#[48]⟩] w fun e w' => e = .returned (.string ⟨(noughtsR s).toArray⟩) ∧ w' = w := by
  have h := Tryz.strings_TrimRight_one ⟨s.toArray⟩ 48 (by decide) w (by simp [ByteArray.size]; omega)
  have e : Lib.trimRightB s 48 = noughtsR s := rfl
  simp only [List.toList_toArray, e] at h
  exact h.mono fun e w' ⟨h1, h2⟩ => ⟨h1, by first | exact h2 | exact h2.symm⟩
theorem pad_short {x : Nat} (h : lenD x ≤ 1075) : padN x = List.replicate (1076 - lenD x) 48 ++ dtext x := by unfold padN; rw [unitE_eq]
theorem pad_long {x : Nat} (h : 1075 < lenD x) : padN x = dtext x := by unfold padN; rw [unitE_eq, show 1075 + 1 - lenD x = 0 by omega]; rfl
set_option maxRecDepth 100000 in
set_option maxHeartbeats 2000000 in
theorem dform_any (A : Option Addr) (n c x : Nat) (w : World) (hl : NatL w A n c x) (hx : blen x ≤ 8192) :
    Calls Tryz.prog 73 #[.agg #[.slice A n c]] w fun e w' => e = .returned (.string ⟨(formN x).toArray⟩) ∧ Below w.heap.size w w' := by
  have HT := Lib.hid (fun W (h : NatL W A n c x) => text_nat _ x W ⟨A, n, c, rfl, h⟩ (Nat.le_trans hx (by decide)))
  have hlen : (dtext x).length ≤ 8192 := len_of_blen hx
  have hl0 : 0 < lenD x := lenD_pos x
  have B0 := Lib.hid (Blk.new w 75 #[.slice A n c])
  have BB := Lib.hid (below_new w (.cells #[.slice A n c] 75))
  have N0 := Lib.hid (hl.below BB.out)
  have hpl := padN_len x
  rw [unitE_eq] at hpl
  have hform : formN x = (padN x).take ((padN x).length - 1075) ++ pB (noughtsR ((padN x).drop ((padN x).length - 1075))) := by unfold formN wholeN restN; rw [unitE_eq]
  have HF := Lib.hid hform
  clear hform
  have hplen : (padN x).length ≤ 10000 := by
    unfold padN
    rw [List.length_append, List.length_replicate, unitE_eq]
    show 1075 + 1 - lenD x + (dtext x).length ≤ _
    omega
  have HPS : Hid (lenD x ≤ 1075 → padN x = List.replicate (1076 - lenD x) 48 ++ dtext x) := Lib.hid pad_short
  have HPL : Hid (1075 < lenD x → padN x = dtext x) := Lib.hid pad_long
  have hlD : lenD x = (dtext x).length := rfl
  rw [hlD] at HPS HPL hl0
  clear hlD hx hl
  generalize dtext x = d at *
  generalize padN x = p at *
  generalize formN x = fx at *
  have c0 := B0.out.cell 0
  go_enter Tryz.func73, Tryz.ntmps73
  go_wp2_with fail
  refine (HT.out _ N0.out).mono ?_
  rintro e w1 ⟨rfl, hb1⟩
  have HB1 := Lib.hid (keepb BB.out hb1)
  clear hb1 c0
  have hdI : (d.length : Int) ≤ 8192 := by omega
  have hpI : (p.length : Int) ≤ 10000 := by omega
  have hpl2 : (1075 : Int) ≤ (p.length : Int) := by omega
  obtain ⟨P, hP⟩ : ∃ P : Nat, P = p.length - 1075 := ⟨_, rfl⟩
  have hPI : ((p.length : Nat) : Int) - 1075 = (P : Int) := by omega
  have k2 : IntKind.i64.wrap ((p.length : Int) - 1075) = (P : Int) := by rw [IntWalk.i64_in _ (by omega)]; exact hPI
  have k3 : IntKind.i64.wrap ((p.length - 1075 : Nat) : Int) = (P : Int) := by rw [IntWalk.i64_in _ (by omega)]; omega
  have hPl : (P : Int) ≤ (p.length : Int) := by omega
  have e1 := cut_take p P
  have e2 := cut_drop p P p.length rfl
  have HTR := Lib.hid (fun W => trimR_d (p.drop P) (by rw [List.length_drop]; omega) W)
  rw [← hP] at HF
  have lW : ((p.take P).length : Int) ≤ 10000 := by rw [List.length_take]; omega
  have lR : ((noughtsR (p.drop P)).length : Int) ≤ 10000 := by
    obtain ⟨k, hk⟩ := noughtsR_spec (p.drop P)
    have h := congrArg List.length hk
    rw [List.length_append, List.length_drop] at h
    omega
  generalize hR : noughtsR (p.drop P) = R at *
  clear hR
  generalize p.take P = T at *
  generalize p.drop P = D at *
  obtain ⟨te, hte⟩ : ∃ te, decide ((d.length : Int) ≤ 1075) = te := ⟨_, rfl⟩
  have HTE := Lib.hid hte
  go_upto_if 10 with fail
  clear hte
  go_cut [3] from 3 to 16 (fun s3 wx => s3 = .string ⟨p.toArray⟩ ∧ Below w.heap.size w wx)
  case first =>
    cases te with
    | false =>
      have h : 1075 < d.length := by have := of_decide_eq_false HTE.out; omega
      have HV := Lib.hid (HPL.out h)
      clear h e1 e2 k2 k3
      go_wp2_with fail
      go_meet
      exact ⟨by rw [HV.out], HB1.out⟩
    | true =>
      have h : d.length ≤ 1075 := by have := of_decide_eq_true HTE.out; omega
      obtain ⟨z, hz⟩ : ∃ z : Nat, z = 1076 - d.length := ⟨_, rfl⟩
      have f1 : IntKind.i64.wrap (1076 - (d.length : Int)) = (z : Int) := by rw [IntWalk.i64_in _ (by omega)]; omega
      have HR := Lib.hid (fun W => repeat_d z (by omega) W)
      have hv := HPS.out h
      rw [← hz] at hv
      have hq := cat_as hv
      have lz : (((List.replicate z (48 : UInt8)).length : Nat) : Int) ≤ 1076 := by rw [List.length_replicate]; omega
      clear h hv hz e1 e2 k2 k3
      generalize List.replicate z (48 : UInt8) = Z at *
      go_wp2_with fail
      refine (HR.out _).mono ?_
      rintro e w3 ⟨rfl, hb3⟩
      have HB3 := Lib.hid (keepb HB1.out hb3)
      clear hb3
      go_wp2_with fail
      go_meet
      exact ⟨rfl, HB3.out⟩
  case rest =>
  obtain ⟨rfl, hbx⟩ := hcut
  have HBX := Lib.hid hbx
  clear hbx
  go_upto_region 4 with fail
  clear hP hPI
  go_quiet ((go_at_call 102; exact Calls.quiet_of_same (HTR.out _)))
  have HBY := Lib.hid (below_drewN HBX.out nq)
  clear e1 e2 k2 k3
  by_cases h0 : R = []
  · have HV := Lib.hid (show fx = T by rw [HF.out, h0]; simp [pB])
    subst h0
    go_wp2_with fail
    go_ret
    exact ⟨by rw [HV.out] <;> rfl, HBY.out⟩
  · have HV := Lib.hid (show fx = (T ++ [46]) ++ R by rw [HF.out]; unfold pB; rw [if_neg h0]; simp)
    obtain ⟨n1, n2⟩ := sv_ne h0
    have q1 := sv_cat T [46]
    have l1 : (((T ++ [46] : List UInt8)).length : Int) ≤ 10001 := by rw [List.length_append]; simp only [List.length_singleton]; omega
    have q2 := sv_cat (T ++ [46]) R
    generalize hE : T ++ [46] = E at *
    clear hE h0
    go_wp2_with fail
    go_ret
    exact ⟨by rw [HV.out] <;> rfl, HBY.out⟩

theorem dform_s (A : Option Addr) (n c x : Nat) (w : World) (hl : NatL w A n c x) (hx : x < 2 ^ bigE) :
    Calls Tryz.prog 73 #[.agg #[.slice A n c]] w fun e w' => e = .returned (.string ⟨(formN x).toArray⟩) ∧ Below w.heap.size w w' := dform_any A n c x w hl (big_blen hx)
/-- What Around answers of a float. -/
def aroundV (n : Nat) : Value :=
  if most < n % 9223372036854775808 then .tuple #[.agg #[.string ⟨#[]⟩, .string ⟨#[]⟩, .bool false], enoV 50]
  else .tuple #[.agg #[.string ⟨(formN (fromN (n % 9223372036854775808))).toArray⟩, .string ⟨(formN (toN (n % 9223372036854775808))).toArray⟩, .bool (n % 9223372036854775808 % 2 == 0)], .nilIface]
set_option maxRecDepth 100000 in
set_option maxHeartbeats 2000000 in
theorem around_fin (n b : Nat) (w : World) (hn : n < 18446744073709551616) (hbn : n % 9223372036854775808 = b) (hb : b ≤ most) :
    Calls Tryz.prog 22 #[.int .u64 n] w fun e w' => e = .returned (.tuple #[.agg #[.string ⟨(formN (fromN b)).toArray⟩, .string ⟨(formN (toN b)).toArray⟩, .bool (b % 2 == 0)], .nilIface]) ∧ Below w.heap.size w w' := by
  have HP := Lib.hid (fun W => dparts_fin n W hn (by rw [hbn]; exact hb))
  rw [hbn] at HP
  have HE := Lib.hid (fun W => ends_nat b W hb)
  have HT : toN b < 2 ^ bigE := toN_lt hb
  have HFr : fromN b < 2 ^ bigE := Nat.lt_of_le_of_lt (fromN_le b) HT
  have HF1 := Lib.hid (fun W A n c (h : NatL W A n c (fromN b)) => dform_s A n c (fromN b) W h HFr)
  have HF2 := Lib.hid (fun W A n c (h : NatL W A n c (toN b)) => dform_s A n c (toN b) W h HT)
  clear HT HFr
  have HX : Hid (∀ w e w', EndsP b w e w' → ∃ A n c A' n' c', e = .returned (.tuple #[.agg #[.slice A n c], .agg #[.slice A' n' c'], .bool (b % 2 == 0)]) ∧ NatL w' A n c (fromN b) ∧ NatL w' A' n' c' (toN b) ∧ Below w.heap.size w w') := Lib.hid (fun _ _ _ h => h)
  generalize formN (fromN b) = f1 at *
  generalize formN (toN b) = f2 at *
  generalize EndsP b = EP at *
  generalize (b % 2 == 0) = cl at *
  generalize toN b = To at *
  generalize fromN b = Fr at *
  have B0 := Lib.hid (Blk.new w 40 #[.string ⟨#[]⟩, .string ⟨#[]⟩, .bool false])
  have BB := Lib.hid (below_new w (.cells #[.string ⟨#[]⟩, .string ⟨#[]⟩, .bool false] 40))
  go_enter Tryz.func22, Tryz.ntmps22
  go_wp2_with fail
  refine (HP.out _).mono ?_
  rintro e w1 ⟨rfl, rfl⟩
  go_wp2_with fail
  refine (HE.out _).mono ?_
  intro e w2 hE
  obtain ⟨A, n1, c, A', n', c', rfl, hN1, hN2, hb2⟩ := HX.out _ _ _ hE
  clear hE
  have hW : Below w2.heap.size w2 ((w2.alloc (.cells #[.slice A n1 c] 75)).alloc (.cells #[.slice A' n' c'] 75)) := ((Below.refl _ w2).alloc (Nat.le_refl _) _).alloc (by simp) _
  have B0 := Lib.hid ((B0.out.st hb2).st hW)
  have B1 := Lib.hid ((Blk.new w2 75 #[.slice A n1 c]).alloc (.cells #[.slice A' n' c'] 75))
  have B2 := Lib.hid (Blk.new2 w2 75 #[.slice A' n' c'] (.cells #[.slice A n1 c] 75))
  have N0 := Lib.hid (hN1.below hW)
  have N1 := Lib.hid (hN2.below hW)
  have hsz : Hid (w.heap.size < w2.heap.size) := Lib.hid (by have := hb2.size; simp at this; omega)
  have BB := Lib.hid (keepb (keepb BB.out hb2) hW)
  clear hb2 hW hN1 hN2
  go_upto_region 5 with fail
  obtain ⟨W3, hW3⟩ : ∃ W3, (w2.alloc (.cells #[.slice A n1 c] 75)).alloc (.cells #[.slice A' n' c'] 75) = W3 := ⟨_, rfl⟩
  rw [hW3] at B0 B1 B2 N0 N1 BB ⊢
  clear hW3
  obtain ⟨g7, hg7⟩ : ∃ g, w2.heap.size = g := ⟨_, rfl⟩
  rw [hg7] at B1 B2 hsz ⊢
  clear hg7
  have hszz := hsz.out
  have SDL : w.heap.size ≤ w.heap.size := Nat.le_refl _
  obtain ⟨S, SD⟩ : ∃ S : World → Prop, Go.RowKit.Hid (∀ x : World, S x ↔ ((∃ u0 u1 u2, Blk x w.heap.size 40 #[u0, u1, u2]) ∧ Blk x g7 75 #[.slice A n1 c] ∧ Blk x (g7 + 1) 75 #[.slice A' n' c'] ∧ NatL x A n1 c (Fr) ∧ NatL x A' n' c' (To) ∧ Below w.heap.size w x)) := ⟨_, Lib.hid (fun _ => Iff.rfl)⟩
  refine wp_region_way (S := S) (by kernel_rfl) (by kernel_rfl) (fun W W' h hb => by obtain ⟨⟨u0_0, u0_1, u0_2, hb0⟩, hb1, hb2, hn0, hn1, hB⟩ := (SD.out _).1 h; exact (SD.out _).2 ⟨⟨u0_0, u0_1, u0_2, hb0.st hb⟩, hb1.st hb, hb2.st hb, hn0.below hb, hn1.below hb, hB.trans (hb.mono (Nat.le_trans SDL hB.size))⟩) ((SD.out _).2 ⟨⟨_, _, _, B0.out.drew⟩, B1.out.drew, B2.out.drew, N0.out, N1.out, BB.out.drew⟩) ?_
  first
    | (refine Way.no 0 (by rfl) (by kernel_rfl) (by rfl) ?_; simp only [Act.put, List.setIfInBounds_toArray, List.set_cons_zero, List.set_cons_succ])
    | (refine' Way.yes 0 (by rfl) (by kernel_rfl) (by rfl) (fun wS hS => ?_) ?_
       rotate_left
       · have hS' := (SD.out _).1 hS
         obtain ⟨⟨u0_0, u0_1, u0_2, hb0⟩, hb1, hb2, hn0, hn1, hB⟩ := hS'
         have c0_0 := hb0.cell 0
         have c0_1 := hb0.cell 1
         have c0_2 := hb0.cell 2
         have c1_0 := hb1.cell 0
         have c2_0 := hb2.cell 0
         go_simp
         first
           | exact ⟨rfl, Below.refl _ _⟩
           | (go_at_call 73; first | (with_reducible exact HF1.out _ _ _ _ hn0) | (with_reducible exact HF2.out _ _ _ _ hn1))
       simp only [Act.put, List.setIfInBounds_toArray, List.set_cons_zero, List.set_cons_succ])
  first
    | (refine Way.no 1 (by rfl) (by kernel_rfl) (by rfl) ?_; simp only [Act.put, List.setIfInBounds_toArray, List.set_cons_zero, List.set_cons_succ])
    | (refine' Way.yes 1 (by rfl) (by kernel_rfl) (by rfl) (fun wS hS => ?_) ?_
       rotate_left
       · have hS' := (SD.out _).1 hS
         obtain ⟨⟨u0_0, u0_1, u0_2, hb0⟩, hb1, hb2, hn0, hn1, hB⟩ := hS'
         have c0_0 := hb0.cell 0
         have c0_1 := hb0.cell 1
         have c0_2 := hb0.cell 2
         have c1_0 := hb1.cell 0
         have c2_0 := hb2.cell 0
         go_simp
         first
           | exact ⟨rfl, Below.refl _ _⟩
           | (go_at_call 73; first | (with_reducible exact HF1.out _ _ _ _ hn0) | (with_reducible exact HF2.out _ _ _ _ hn1))
       simp only [Act.put, List.setIfInBounds_toArray, List.set_cons_zero, List.set_cons_succ])
  first
    | (refine Way.no 2 (by rfl) (by kernel_rfl) (by rfl) ?_; simp only [Act.put, List.setIfInBounds_toArray, List.set_cons_zero, List.set_cons_succ])
    | (refine' Way.yes 2 (by rfl) (by kernel_rfl) (by rfl) (fun wS hS => ?_) ?_
       rotate_left
       · have hS' := (SD.out _).1 hS
         obtain ⟨⟨u0_0, u0_1, u0_2, hb0⟩, hb1, hb2, hn0, hn1, hB⟩ := hS'
         have c0_0 := hb0.cell 0
         have c0_1 := hb0.cell 1
         have c0_2 := hb0.cell 2
         have c1_0 := hb1.cell 0
         have c2_0 := hb2.cell 0
         go_simp
         first
           | exact ⟨rfl, Below.refl _ _⟩
           | (go_at_call 73; first | (with_reducible exact HF1.out _ _ _ _ hn0) | (with_reducible exact HF2.out _ _ _ _ hn1))
       simp only [Act.put, List.setIfInBounds_toArray, List.set_cons_zero, List.set_cons_succ])
  first
    | (refine Way.no 3 (by rfl) (by kernel_rfl) (by rfl) ?_; simp only [Act.put, List.setIfInBounds_toArray, List.set_cons_zero, List.set_cons_succ])
    | (refine' Way.yes 3 (by rfl) (by kernel_rfl) (by rfl) (fun wS hS => ?_) ?_
       rotate_left
       · have hS' := (SD.out _).1 hS
         obtain ⟨⟨u0_0, u0_1, u0_2, hb0⟩, hb1, hb2, hn0, hn1, hB⟩ := hS'
         have c0_0 := hb0.cell 0
         have c0_1 := hb0.cell 1
         have c0_2 := hb0.cell 2
         have c1_0 := hb1.cell 0
         have c2_0 := hb2.cell 0
         go_simp
         first
           | exact ⟨rfl, Below.refl _ _⟩
           | (go_at_call 73; first | (with_reducible exact HF1.out _ _ _ _ hn0) | (with_reducible exact HF2.out _ _ _ _ hn1))
       simp only [Act.put, List.setIfInBounds_toArray, List.set_cons_zero, List.set_cons_succ])
  first
    | (refine Way.no 4 (by rfl) (by kernel_rfl) (by rfl) ?_; simp only [Act.put, List.setIfInBounds_toArray, List.set_cons_zero, List.set_cons_succ])
    | (refine' Way.yes 4 (by rfl) (by kernel_rfl) (by rfl) (fun wS hS => ?_) ?_
       rotate_left
       · have hS' := (SD.out _).1 hS
         obtain ⟨⟨u0_0, u0_1, u0_2, hb0⟩, hb1, hb2, hn0, hn1, hB⟩ := hS'
         have c0_0 := hb0.cell 0
         have c0_1 := hb0.cell 1
         have c0_2 := hb0.cell 2
         have c1_0 := hb1.cell 0
         have c2_0 := hb2.cell 0
         go_simp
         first
           | exact ⟨rfl, Below.refl _ _⟩
           | (go_at_call 73; first | (with_reducible exact HF1.out _ _ _ _ hn0) | (with_reducible exact HF2.out _ _ _ _ hn1))
       simp only [Act.put, List.setIfInBounds_toArray, List.set_cons_zero, List.set_cons_succ])
  first
    | (refine Way.no 5 (by rfl) (by kernel_rfl) (by rfl) ?_; simp only [Act.put, List.setIfInBounds_toArray, List.set_cons_zero, List.set_cons_succ])
    | (refine' Way.yes 5 (by rfl) (by kernel_rfl) (by rfl) (fun wS hS => ?_) ?_
       rotate_left
       · have hS' := (SD.out _).1 hS
         obtain ⟨⟨u0_0, u0_1, u0_2, hb0⟩, hb1, hb2, hn0, hn1, hB⟩ := hS'
         have c0_0 := hb0.cell 0
         have c0_1 := hb0.cell 1
         have c0_2 := hb0.cell 2
         have c1_0 := hb1.cell 0
         have c2_0 := hb2.cell 0
         go_simp
         first
           | exact ⟨rfl, Below.refl _ _⟩
           | (go_at_call 73; first | (with_reducible exact HF1.out _ _ _ _ hn0) | (with_reducible exact HF2.out _ _ _ _ hn1))
       simp only [Act.put, List.setIfInBounds_toArray, List.set_cons_zero, List.set_cons_succ])
  refine Way.move 6 (by rfl) (by kernel_rfl) (by rfl) (fun wS hS => ?_)
  have hS' := (SD.out _).1 hS
  obtain ⟨⟨u0_0, u0_1, u0_2, hb0⟩, hb1, hb2, hn0, hn1, hB⟩ := hS'
  have c0_0 := hb0.cell 0
  have c0_1 := hb0.cell 1
  have c0_2 := hb0.cell 2
  have c1_0 := hb1.cell 0
  have c2_0 := hb2.cell 0
  have f0_0 := hb0.frozen 0
  have f0_1 := hb0.frozen 1
  have f0_2 := hb0.frozen 2
  go_simp
  obtain ⟨S_1, SD_1⟩ : ∃ S_1 : World → Prop, Go.RowKit.Hid (∀ x : World, S_1 x ↔ (Blk x w.heap.size 40 #[.string ⟨f1.toArray⟩, .string ⟨f2.toArray⟩, .bool cl] ∧ Blk x g7 75 #[.slice A n1 c] ∧ Blk x (g7 + 1) 75 #[.slice A' n' c'] ∧ NatL x A n1 c (Fr) ∧ NatL x A' n' c' (To) ∧ Below w.heap.size w x)) := ⟨_, Lib.hid (fun _ => Iff.rfl)⟩
  have hst : Stays S_1 := fun W W' h hb => by obtain ⟨hb0, hb1, hb2, hn0, hn1, hB⟩ := (SD_1.out _).1 h; exact (SD_1.out _).2 ⟨hb0.st hb, hb1.st hb, hb2.st hb, hn0.below hb, hn1.below hb, hB.trans (hb.mono (Nat.le_trans SDL hB.size))⟩
  have hle : ∀ x, S_1 x → S x := fun x h => by obtain ⟨hb0, hb1, hb2, hn0, hn1, hB⟩ := (SD_1.out _).1 h; exact (SD.out _).2 ⟨⟨_, _, _, hb0⟩, hb1, hb2, hn0, hn1, hB⟩
  refine Moved.keep S_1 hst hle ((SD_1.out _).2 ⟨(((hb0.set1 0 _).set1 1 _).set1 2 _), (((hb1.far (by first | (simp; done) | (simp; omega)) _).far (by first | (simp; done) | (simp; omega)) _).far (by first | (simp; done) | (simp; omega)) _), (((hb2.far (by first | (simp; done) | (simp; omega)) _).far (by first | (simp; done) | (simp; omega)) _).far (by first | (simp; done) | (simp; omega)) _), (((hn0.set hb0 (by decide) _).set (hb0.set1 0 _) (by decide) _).set ((hb0.set1 0 _).set1 1 _) (by decide) _), (((hn1.set hb0 (by decide) _).set (hb0.set1 0 _) (by decide) _).set ((hb0.set1 0 _).set1 1 _) (by decide) _), (((hB.setCell (by first | (simp; done) | (simp; omega)) _).setCell (by first | (simp; done) | (simp; omega)) _).setCell (by first | (simp; done) | (simp; omega)) _)⟩) ?_
  clear hst hle
  try simp only [Act.put, List.setIfInBounds_toArray, List.set_cons_zero, List.set_cons_succ]
  first
    | (refine Way.no 7 (by rfl) (by kernel_rfl) (by rfl) ?_; simp only [Act.put, List.setIfInBounds_toArray, List.set_cons_zero, List.set_cons_succ])
    | (refine' Way.yes 7 (by rfl) (by kernel_rfl) (by rfl) (fun wS hS => ?_) ?_
       rotate_left
       · have hS' := (SD_1.out _).1 hS
         obtain ⟨hb0, hb1, hb2, hn0, hn1, hB⟩ := hS'
         have c0_0 := hb0.cell 0
         have c0_1 := hb0.cell 1
         have c0_2 := hb0.cell 2
         have c1_0 := hb1.cell 0
         have c2_0 := hb2.cell 0
         go_simp
         first
           | exact ⟨rfl, Below.refl _ _⟩
       simp only [Act.put, List.setIfInBounds_toArray, List.set_cons_zero, List.set_cons_succ])
  refine Way.done (by kernel_rfl) (fun wE hS => ?_)
  have hS' := (SD_1.out _).1 hS
  obtain ⟨hb0, hb1, hb2, hn0, hn1, hB⟩ := hS'
  have c0_0 := hb0.cell 0
  have c0_1 := hb0.cell 1
  have c0_2 := hb0.cell 2
  have c1_0 := hb1.cell 0
  have c2_0 := hb2.cell 0
  clear hS
  clear c0_0 c0_1 c0_2 c1_0 c2_0
  have c0_0 := hb0.cell 0
  have c0_1 := hb0.cell 1
  have c0_2 := hb0.cell 2
  go_wp2_with fail
  exact bodyPost_ret (v := .tuple #[.agg #[.string ⟨f1.toArray⟩, .string ⟨f2.toArray⟩, .bool cl], .nilIface]) (by simp [results, Tryz.results22, go_sem, c0_0, c0_1, c0_2]) rfl ⟨rfl, hB⟩
set_option maxRecDepth 100000 in
theorem around_inf (n : Nat) (w : World) (hn : n < 18446744073709551616) (h : most < n % 9223372036854775808) :
    Calls Tryz.prog 22 #[.int .u64 n] w fun e w' => e = .returned (.tuple #[.agg #[.string ⟨#[]⟩, .string ⟨#[]⟩, .bool false], enoV 50]) ∧ Below w.heap.size w w' := by
  have HP := Lib.hid (fun W => dparts_inf n W hn h)
  have B0 := Lib.hid (Blk.new w 40 #[.string ⟨#[]⟩, .string ⟨#[]⟩, .bool false])
  have BB := Lib.hid (below_new w (.cells #[.string ⟨#[]⟩, .string ⟨#[]⟩, .bool false] 40))
  clear hn h
  go_enter Tryz.func22, Tryz.ntmps22
  go_wp2_with fail
  refine (HP.out _).mono ?_
  rintro e w1 ⟨rfl, rfl⟩
  go_upto_region 3 with fail
  obtain ⟨W, hW⟩ : ∃ W, w.alloc (.cells #[.string ⟨#[]⟩, .string ⟨#[]⟩, .bool false] 40) = W := ⟨_, rfl⟩
  rw [hW] at B0 BB ⊢
  clear hW
  obtain ⟨c0, c1, c2, f0, f1, f2⟩ := B0.out.three
  have hp := B0.out.put3 (.string ⟨#[]⟩) (.string ⟨#[]⟩) (.bool false)
  have hbl := below_put3 BB.out (Nat.le_refl _) (.string ⟨#[]⟩) (.string ⟨#[]⟩) (.bool false)
  have HP3 := Lib.hid hp
  clear hp
  go_wp2_with fail
  obtain ⟨e0, e1, e2⟩ := HP3.out
  exact bodyPost_ret (v := .tuple #[.agg #[.string ⟨#[]⟩, .string ⟨#[]⟩, .bool false], enoV 50]) (by simp [results, Tryz.results22, go_sem, e0, e1, e2]) rfl ⟨rfl, hbl⟩
theorem around_any (n : Nat) (w : World) (hn : n < 18446744073709551616) :
    Calls Tryz.prog 22 #[.int .u64 n] w fun e w' => e = .returned (aroundV n) ∧ Below w.heap.size w w' := by
  unfold aroundV
  by_cases h : most < n % 9223372036854775808
  · rw [if_pos h]; exact around_inf n w hn h
  · rw [if_neg h]; exact around_fin n _ w hn rfl (by omega)
/-- All of a float's digits. -/
def exactR (n : Nat) : List UInt8 := gS (decide (9223372036854775808 < n)) ++ formN (sz (n % 9223372036854775808))
def exactV (n : Nat) : Value := if most < n % 9223372036854775808 then .tuple #[.string ⟨#[]⟩, enoV 50] else .tuple #[.string ⟨(exactR n).toArray⟩, .nilIface]
set_option maxRecDepth 100000 in
set_option maxHeartbeats 2000000 in
theorem exact_walk (n m S z : Nat) (k : Int) (sg : Bool) (f er : List UInt8) (w : World)
    (HP : Hid (∀ W, Calls Tryz.prog 45 #[.int .u64 n] W fun e w' => e = .returned (.tuple #[.int .u64 (m : Nat), .int .i64 k, .bool true]) ∧ W = w'))
    (HSC : Hid (∀ W, Calls Tryz.prog 46 #[.int .u64 (m : Nat), .int .i64 k] W (NatO S W)))
    (HF : Hid (∀ W A m c, NatL W A m c S → Calls Tryz.prog 73 #[.agg #[.slice A m c]] W fun e w' => e = .returned (.string ⟨f.toArray⟩) ∧ Below W.heap.size W w'))
    (hlI : (f.length : Int) ≤ 10000) (e1 : (n : Int) / 9223372036854775808 = (z : Int)) (hnI : (n : Int) ≤ 18446744073709551615)
    (HZ : Hid ((z = 1 ∧ m ≠ 0 ∧ sg = true) ∨ (z = 1 ∧ m = 0 ∧ sg = false) ∨ (z = 0 ∧ sg = false))) (HEX : Hid (er = gS sg ++ f)) :
    Calls Tryz.prog 20 #[.int .u64 n] w fun e w' => e = .returned (.tuple #[.string ⟨er.toArray⟩, .nilIface]) ∧ Below w.heap.size w w' := by
  have HX : Hid (∀ w e w', NatO S w e w' → ∃ A n c, e = .returned (.agg #[.slice A n c]) ∧ NatL w' A n c S ∧ Below w.heap.size w w') := Lib.hid (fun w e w' h => h)
  generalize NatO S = NO at *
  have hcat := sv_cat [45] f
  go_enter Tryz.func20, Tryz.ntmps20
  go_wp2_with fail
  refine (HP.out _).mono ?_
  rintro e w1 ⟨rfl, rfl⟩
  go_wp2_with fail
  refine (HSC.out _).mono ?_
  intro e w2 hE
  obtain ⟨A, m', c, rfl, hN, hb2⟩ := HX.out _ _ _ hE
  clear hE
  have HB2 := Lib.hid hb2
  have HN := Lib.hid hN
  clear hb2 hN
  go_wp2_with fail
  refine (HF.out _ _ _ _ HN.out).mono ?_
  rintro e w3 ⟨rfl, hb3⟩
  have HB3 := Lib.hid (keepb HB2.out hb3)
  clear hb3
  rcases HZ.out with ⟨rfl, hm, rfl⟩ | ⟨rfl, rfl, rfl⟩ | ⟨rfl, rfl⟩
  · have HV := Lib.hid (show er = [45] ++ f by rw [HEX.out]; rfl)
    have t1 : ((m : Int) != 0) = true := by rw [bne_iff_ne]; omega
    have t2 : ((m : Int) == 0) = false := by rw [beq_eq_false_iff_ne]; omega
    have t3 : (m == 0) = false := by rw [beq_eq_false_iff_ne]; omega
    clear hm
    go_wp2_with fail
    go_ret2
    exact ⟨by rw [HV.out] <;> rfl, HB3.out⟩
  · have HV := Lib.hid (show er = f by rw [HEX.out]; rfl)
    go_wp2_with fail
    go_ret2
    exact ⟨by rw [HV.out] <;> rfl, HB3.out⟩
  · have HV := Lib.hid (show er = f by rw [HEX.out]; rfl)
    go_wp2_with fail
    go_ret2
    exact ⟨by rw [HV.out] <;> rfl, HB3.out⟩
set_option maxRecDepth 100000 in
theorem exact_inf (n : Nat) (w : World) (hn : n < 18446744073709551616) (hf : most < n % 9223372036854775808) :
    Calls Tryz.prog 20 #[.int .u64 n] w fun e w' => e = .returned (.tuple #[.string ⟨#[]⟩, enoV 50]) ∧ Below w.heap.size w w' := by
  have HP := Lib.hid (fun W => dparts_inf n W hn hf)
  clear hf hn
  go_enter Tryz.func20, Tryz.ntmps20
  go_wp2_with fail
  refine (HP.out _).mono ?_
  rintro e w1 ⟨rfl, rfl⟩
  go_wp2_with fail
  go_ret2
  exact ⟨rfl, Below.refl _ _⟩
theorem form_size {x : Nat} (h : x < 2 ^ bigE) : (formN x).length ≤ 10000 := by
  have h1 := form_len x
  have h2 := lenD_le h
  have h3 : lenE = 2160 := rfl
  have h4 : unitE = 1075 := rfl
  omega
theorem exact_fin (n b : Nat) (w : World) (hn : n < 18446744073709551616) (hbn : n % 9223372036854775808 = b) (hb : b ≤ most) :
    Calls Tryz.prog 20 #[.int .u64 n] w fun e w' => e = .returned (.tuple #[.string ⟨(gS (decide (9223372036854775808 < n)) ++ formN (sz b)).toArray⟩, .nilIface]) ∧ Below w.heap.size w w' := by
  obtain ⟨hm1, hk1, hk2⟩ := flt_bounds hb
  have h0 : fltM b = 0 ↔ b = 0 := (flt_form b 1074 rfl).2.2.2
  have hl := form_size (sz_lt hb)
  refine exact_walk n (fltM b) (sz b) (n / 9223372036854775808) (fltK b) (decide (9223372036854775808 < n)) (formN (sz b)) _ w ?_ ?_ ?_ ?_ ?_ ?_ ?_ (Lib.hid rfl)
  · exact Lib.hid (fun W => by rw [← hbn]; exact dparts_fin n W hn (by rw [hbn]; exact hb))
  · exact Lib.hid (fun W => scaled_o (fltM b) (fltK b) (sz b) W (by omega) (by omega) hk2 (sv5_sz b))
  · exact Lib.hid (fun W A m c h => dform_s A m c (sz b) W h (sz_lt hb))
  · omega
  · omega
  · omega
  · refine Lib.hid ?_
    by_cases hs : 9223372036854775808 < n
    · left; exact ⟨by omega, by omega, decide_eq_true hs⟩
    · by_cases hz : n / 9223372036854775808 = 1
      · right; left; exact ⟨hz, by omega, decide_eq_false hs⟩
      · right; right; exact ⟨by omega, decide_eq_false hs⟩
theorem exact_any (n : Nat) (w : World) (hn : n < 18446744073709551616) :
    Calls Tryz.prog 20 #[.int .u64 n] w fun e w' => e = .returned (exactV n) ∧ Below w.heap.size w w' := by
  unfold exactV exactR
  by_cases hf : most < n % 9223372036854775808
  · rw [if_pos hf]; exact exact_inf n w hn hf
  · rw [if_neg hf]; exact exact_fin n _ w hn rfl (by omega)
end Go.Proofs.YtnajondbdeclmaaGreatDoor
