/- The law's put, less, place, number. -/
import Derived.Test.YtgihkmofpncobaaDoorNRT
namespace Go.Proofs.YtgihkmofpncobaaDoor
open Go.RowKit
set_option linter.unusedSimpArgs false
set_option linter.unusedVariables false

attribute [local go_sem] SGives_value SGives_skip SGives_enter CGives_value CGives_skip CGives_enter MGives_value MGives_skip MGives_enter
theorem blen_b4 {x M m : Nat} (hx : blen x ≤ M) (hM : M = 8192) (hm : m = 4096) : x < B4 ^ m :=
  Nat.lt_trans (blen_le.1 hx) (two_lt (N := m) (by omega) (by omega) (Nat.le_refl _))
theorem dtext_zero : dtext 0 = [48] := rfl
set_option maxRecDepth 100000 in
theorem less_yes (no : Int) (w : World) : Calls Tryd.prog 18 #[.bool true, .int .i64 no] w fun e w' => e = .returned (.int .i64 0) ∧ Below w.heap.size w w' := by
  go_enter Tryd.func18, Tryd.ntmps18
  go_wp2
  go_ret
  exact ⟨rfl, Below.refl _ _⟩
set_option maxRecDepth 100000 in
theorem less_no (no : Int) (w : World) : Calls Tryd.prog 18 #[.bool false, .int .i64 no] w fun e w' => e = .returned (.int .i64 no) ∧ Below w.heap.size w w' := by
  go_enter Tryd.func18, Tryd.ntmps18
  go_wp2
  go_ret
  exact ⟨rfl, Below.refl _ _⟩
/-- The number that less tells. -/
def lessV (b : Bool) (no : Int) : Int := if b then 0 else no
theorem less_any (b : Bool) (no : Int) (w : World) : Calls Tryd.prog 18 #[.bool b, .int .i64 no] w fun e w' => e = .returned (.int .i64 (lessV b no)) ∧ Below w.heap.size w w' := by
  cases b
  · exact less_no no w
  · exact less_yes no w
/-- A place of a row of n numbers. -/
def placeI (n : Nat) (i : Int) : Nat := (i % (n : Int)).toNat
theorem placeI_lt {n : Nat} (hn : 0 < n) (i : Int) : placeI n i < n := by
  unfold placeI
  have h1 := Int.emod_nonneg i (show (n : Int) ≠ 0 by omega)
  have h2 := Int.emod_lt_of_pos i (show (0 : Int) < n by omega)
  omega
theorem tmod_place {n : Nat} (hn : 0 < n) (i : Int) : (Int.tmod i n < 0 → Int.tmod i n + n = (placeI n i : Int)) ∧ (¬ Int.tmod i n < 0 → Int.tmod i n = (placeI n i : Int)) := by
  have hp := placeI_lt hn i
  have h0 := Int.emod_nonneg i (show (n : Int) ≠ 0 by omega)
  have hv : (placeI n i : Int) = i % (n : Int) := by unfold placeI; omega
  have ht := Int.tmod_eq_emod (a := i) (b := (n : Int))
  rw [hv]
  by_cases h : 0 ≤ i ∨ (n : Int) ∣ i
  · rw [if_pos h] at ht
    omega
  · rw [if_neg h] at ht
    have : ((n : Int).natAbs : Int) = n := by omega
    omega
set_option maxRecDepth 100000 in
set_option maxHeartbeats 1000000 in
theorem place_any (n : Nat) (i : Int) (w : World) (hn : 0 < n) (hn2 : n ≤ 1000000000000000) (hi : (Lit.int .i64 i).wf = true) :
    Calls Tryd.prog 21 #[.int .i64 (n : Int), .int .i64 i] w fun e w' => e = .returned (.int .i64 (placeI n i : Nat)) ∧ Below w.heap.size w w' := by
  obtain ⟨h1, h2⟩ := tmod_place hn i
  have hp := placeI_lt hn i
  have hz : ((n : Int) == 0) = false := by rw [beq_eq_false_iff_ne]; omega
  have hz2 : ((n : Int) = 0) = False := by simp; omega
  obtain ⟨p, hpp⟩ : ∃ p, placeI n i = p := ⟨_, rfl⟩
  rw [hpp] at h1 h2 hp ⊢
  obtain ⟨r, hr⟩ : ∃ r, Int.tmod i n = r := ⟨_, rfl⟩
  rw [hr] at h1 h2
  have hb : -1000000000000000 ≤ r ∧ r ≤ 1000000000000000 := by
    by_cases h : r < 0
    · have := h1 h; omega
    · have := h2 h; omega
  have hw : IntKind.i64.wrap r = r := IntWalk.i64_in _ (by omega)
  have HR := Lib.hid hr
  have hp2 : (p : Int) ≤ 1000000000000000 := by omega
  clear hpp
  by_cases hneg : r < 0
  · have e1 := h1 hneg
    have t1 : decide (r < 0) = true := decide_eq_true hneg
    clear h1 h2 hb
    go_enter Tryd.func21, Tryd.ntmps21
    go_wp2_with fail
    go_ret
    exact ⟨rfl, Below.refl _ _⟩
  · have e1 := h2 hneg
    have t1 : decide (r < 0) = false := decide_eq_false hneg
    clear h1 h2 hb
    go_enter Tryd.func21, Tryd.ntmps21
    go_wp2_with fail
    go_ret
    exact ⟨rfl, Below.refl _ _⟩
set_option maxRecDepth 100000 in
set_option maxHeartbeats 1000000 in
theorem put_bad (rv : Value) (no : Int) (A : Option Addr) (n c : Nat) (w : World) (hno : no ≠ 0) :
    Calls Tryd.prog 13 #[rv, nilN, enoV no, .agg #[.slice A n c], .int .i64 no] w fun e w' => e = .returned (.bool true) ∧ Below w.heap.size w w' := by
  have HNO := Lib.hid (fun W => number_yes no W)
  have HTX := Lib.hid (fun W => text_nat nilN 0 W (NatW.nil W) (by decide))
  rw [dtext_zero] at HTX
  have t1 : (no != 0) = true := by simpa using hno
  clear hno
  go_enter Tryd.func13, Tryd.ntmps13
  go_wp2_with fail
  refine (HNO.out _).mono ?_
  rintro e w1 ⟨rfl, rfl⟩
  go_wp2_with fail
  refine (HTX.out _).mono ?_
  rintro e w2 ⟨rfl, hb2⟩
  have HB2 := Lib.hid hb2
  clear hb2
  go_wp2_with fail
  go_ret
  exact ⟨rfl, keepb (by go_grown) HB2.out⟩
/-- What a put of the number x leaves. -/
def PutP (base hi rb : Nat) (xs : List Nat) (x : Nat) (w : World) (e : Ending) (w' : World) : Prop :=
  e = .returned (.bool true) ∧ (∃ h2, Row base h2 w' rb (xs ++ [x])) ∧ Keeps hi w w' ∧ Below base w w'
set_option maxRecDepth 4000000 in
set_option maxHeartbeats 4000000 in
theorem put_core (base hi rb gp cp gd cd : Nat) (xs : List Nat) (P D : List Value) (x : Nat) (A B : Option Addr) (n c m d : Nat) (w : World) (hrow : RowS base hi w rb gp cp gd cd xs xs P D) (hl : NatL w A n c x) (hk : RatL w B m d x) (hx : blen x ≤ 8192) (hlen : (xs.length + 1) * 24 ≤ 140737488355328) :
    Calls Tryd.prog 13 #[.pointer (some ⟨rb, 0, none⟩), .agg #[.slice A n c], .nilIface, .agg #[.slice B m d], .int .i64 0] w (PutP base hi rb xs x w) := by
  obtain ⟨W0, hW0⟩ : ∃ W0, (w.alloc (.cells #[.slice A n c] 26)).alloc (.cells #[.slice B m d] 31) = W0 := ⟨_, rfl⟩
  have hb0 : Below w.heap.size w W0 := by rw [← hW0]; go_grown
  have HA := Lib.hid (show Blk W0 w.heap.size 26 #[.slice A n c] by rw [← hW0]; exact (Blk.new _ _ _).alloc _)
  have HB := Lib.hid (show Blk W0 (w.heap.size + 1) 31 #[.slice B m d] by
    rw [← hW0]
    have := Blk.new (w.alloc (.cells #[.slice A n c] 26)) 31 #[.slice B m d]
    rwa [World.size_alloc] at this)
  have HR := Lib.hid (hrow.below hb0)
  have HL := Lib.hid (hl.below hb0)
  have HK := Lib.hid (hk.below hb0)
  have HKP : Hid (Keeps hi w W0) := Lib.hid (Keeps.of_below hb0)
  have HBE : Hid (Below base w W0) := Lib.hid (hb0.mono (Nat.le_trans (Nat.le_trans hrow.brb (Nat.le_of_lt hrow.hrb)) hrow.le))
  have HHI : Hid (hi ≤ w.heap.size) := Lib.hid hrow.le
  have HLEN := Lib.hid hlen
  have HGP := Lib.hid hrow.hgp
  have HGD := Lib.hid hrow.hgd
  have HRB := Lib.hid hrow.hrb
  have HBR := Lib.hid hrow.brb
  have HBP := Lib.hid hrow.bgp
  have HBD := Lib.hid hrow.bgd
  have HX := Lib.hid hx
  obtain ⟨k, hkx⟩ : ∃ k, xs.length = k := ⟨_, rfl⟩
  have HKX := Lib.hid hkx
  clear hrow hl hk hb0 hlen hkx
  go_enter Tryd.func13, Tryd.ntmps13
  go_upto_if 12 with fail
  clear hW0 hx
  go_upto_region 3 with fail
  go_cut [] from 21 to 30 (fun wx => ∃ g2 c2, RowS base wx.heap.size wx rb g2 c2 gd cd (xs ++ [x]) xs (P ++ [.slice A n c]) D ∧ Blk wx w.heap.size 26 #[.slice A n c] ∧ Blk wx (w.heap.size + 1) 31 #[.slice B m d] ∧ NatL wx A n c x ∧ RatL wx B m d x ∧ Keeps hi w wx ∧ Below base w wx)
  case first =>
    obtain ⟨S1_0, S1_0D⟩ : ∃ S : World → Prop, Go.RowKit.Hid (∀ w' : World, S w' ↔ ((RowS base hi w' rb gp cp gd cd xs xs P D) ∧ (Blk w' w.heap.size 26 #[.slice A n c]) ∧ (Blk w' (w.heap.size + 1) 31 #[.slice B m d]) ∧ (NatL w' A n c x) ∧ (RatL w' B m d x) ∧ (Keeps hi w w') ∧ (Below base w w' ∧ base ≤ w'.heap.size))) := ⟨_, Lib.hid (fun _ => Iff.rfl)⟩
    refine wp_region_way (S := S1_0) (by kernel_rfl) (by kernel_rfl) (fun W W' h hb => by obtain ⟨h_r, h_a, h_b, h_l, h_k, h_p, h_e⟩ := (S1_0D.out _).1 h; exact (S1_0D.out _).2 ⟨h_r.below hb, h_a.below hb h_a.lt, h_b.below hb h_b.lt, h_l.below hb, h_k.below hb, h_p.below hb, ⟨h_e.1.trans (hb.mono h_e.2), Nat.le_trans h_e.2 hb.size⟩⟩) ((S1_0D.out _).2 ⟨HR.out.below (Below.refl _ W0).drew, HA.out.drew, HB.out.drew, HL.out.below (Below.refl _ W0).drew, HK.out.below (Below.refl _ W0).drew, HKP.out.below (Below.refl _ W0).drew, ⟨HBE.out.drew, by rw [World.size_drew]; exact Nat.le_trans (Nat.le_trans HR.out.brb (Nat.le_of_lt HR.out.hrb)) HR.out.le⟩⟩) ?_
    first
      | (refine Way.no 0 (by rfl) (by kernel_rfl) (by rfl) ?_; simp only [Act.put, List.setIfInBounds_toArray, List.set_cons_zero, List.set_cons_succ])
      | (refine' Way.yes 0 (by rfl) (by kernel_rfl) (by rfl) (fun wS hS => ?_) ?_
         rotate_left
         · obtain ⟨h_r, h_a, h_b, h_l, h_k, h_p, h_e⟩ := (S1_0D.out _).1 hS
           have c0 := h_r.c0
           have c6 := h_a.cell 0
           simp at c6
           go_simp
           first
             | exact ⟨rfl, Below.refl _ _⟩
         simp only [Act.put, List.setIfInBounds_toArray, List.set_cons_zero, List.set_cons_succ])
    first
      | (refine Way.no 1 (by rfl) (by kernel_rfl) (by rfl) ?_; simp only [Act.put, List.setIfInBounds_toArray, List.set_cons_zero, List.set_cons_succ])
      | (refine' Way.yes 1 (by rfl) (by kernel_rfl) (by rfl) (fun wS hS => ?_) ?_
         rotate_left
         · obtain ⟨h_r, h_a, h_b, h_l, h_k, h_p, h_e⟩ := (S1_0D.out _).1 hS
           have c0 := h_r.c0
           have c6 := h_a.cell 0
           simp at c6
           go_simp
           first
             | exact ⟨rfl, Below.refl _ _⟩
         simp only [Act.put, List.setIfInBounds_toArray, List.set_cons_zero, List.set_cons_succ])
    first
      | (refine Way.no 2 (by rfl) (by kernel_rfl) (by rfl) ?_; simp only [Act.put, List.setIfInBounds_toArray, List.set_cons_zero, List.set_cons_succ])
      | (refine' Way.yes 2 (by rfl) (by kernel_rfl) (by rfl) (fun wS hS => ?_) ?_
         rotate_left
         · obtain ⟨h_r, h_a, h_b, h_l, h_k, h_p, h_e⟩ := (S1_0D.out _).1 hS
           have c0 := h_r.c0
           have c6 := h_a.cell 0
           simp at c6
           go_simp
           first
             | exact ⟨rfl, Below.refl _ _⟩
         simp only [Act.put, List.setIfInBounds_toArray, List.set_cons_zero, List.set_cons_succ])
    first
      | (refine Way.no 3 (by rfl) (by kernel_rfl) (by rfl) ?_; simp only [Act.put, List.setIfInBounds_toArray, List.set_cons_zero, List.set_cons_succ])
      | (refine' Way.yes 3 (by rfl) (by kernel_rfl) (by rfl) (fun wS hS => ?_) ?_
         rotate_left
         · obtain ⟨h_r, h_a, h_b, h_l, h_k, h_p, h_e⟩ := (S1_0D.out _).1 hS
           have c0 := h_r.c0
           have c6 := h_a.cell 0
           simp at c6
           go_simp
           first
             | exact ⟨rfl, Below.refl _ _⟩
         simp only [Act.put, List.setIfInBounds_toArray, List.set_cons_zero, List.set_cons_succ])
    first
      | (refine Way.no 4 (by rfl) (by kernel_rfl) (by rfl) ?_; simp only [Act.put, List.setIfInBounds_toArray, List.set_cons_zero, List.set_cons_succ])
      | (refine' Way.yes 4 (by rfl) (by kernel_rfl) (by rfl) (fun wS hS => ?_) ?_
         rotate_left
         · obtain ⟨h_r, h_a, h_b, h_l, h_k, h_p, h_e⟩ := (S1_0D.out _).1 hS
           have c0 := h_r.c0
           have c6 := h_a.cell 0
           simp at c6
           go_simp
           first
             | exact ⟨rfl, Below.refl _ _⟩
         simp only [Act.put, List.setIfInBounds_toArray, List.set_cons_zero, List.set_cons_succ])
    first
      | (refine Way.no 5 (by rfl) (by kernel_rfl) (by rfl) ?_; simp only [Act.put, List.setIfInBounds_toArray, List.set_cons_zero, List.set_cons_succ])
      | (refine' Way.yes 5 (by rfl) (by kernel_rfl) (by rfl) (fun wS hS => ?_) ?_
         rotate_left
         · obtain ⟨h_r, h_a, h_b, h_l, h_k, h_p, h_e⟩ := (S1_0D.out _).1 hS
           have c0 := h_r.c0
           have c6 := h_a.cell 0
           simp at c6
           go_simp
           first
             | exact ⟨rfl, Below.refl _ _⟩
         simp only [Act.put, List.setIfInBounds_toArray, List.set_cons_zero, List.set_cons_succ])
    refine Way.move 6 (by rfl) (by kernel_rfl) (by rfl) (fun wA hS => ?_)
    obtain ⟨h_r, h_a, h_b, h_l, h_k, h_p, h_e⟩ := (S1_0D.out _).1 hS
    clear hS
    have hb := below_new wA (.cells #[.slice A n c] 26)
    have hX' := Blk.new wA 26 #[.slice A n c]
    go_simp
    obtain ⟨g, hgg⟩ : ∃ g, wA.heap.size = g := ⟨_, rfl⟩
    rw [hgg] at hX'
    simp only [hgg]
    obtain ⟨S1_1, S1_1D⟩ : ∃ S : World → Prop, Go.RowKit.Hid (∀ w' : World, S w' ↔ ((RowS base hi w' rb gp cp gd cd xs xs P D) ∧ (Blk w' w.heap.size 26 #[.slice A n c]) ∧ (Blk w' (w.heap.size + 1) 31 #[.slice B m d]) ∧ (NatL w' A n c x) ∧ (RatL w' B m d x) ∧ (Keeps hi w w') ∧ (Below base w w' ∧ base ≤ w'.heap.size) ∧ (Blk w' g 26 #[.slice A n c]))) := ⟨_, Lib.hid (fun _ => Iff.rfl)⟩
    refine Moved.keep S1_1 (fun W W' h hb => by obtain ⟨h_r, h_a, h_b, h_l, h_k, h_p, h_e, h_x⟩ := (S1_1D.out _).1 h; exact (S1_1D.out _).2 ⟨h_r.below hb, h_a.below hb h_a.lt, h_b.below hb h_b.lt, h_l.below hb, h_k.below hb, h_p.below hb, ⟨h_e.1.trans (hb.mono h_e.2), Nat.le_trans h_e.2 hb.size⟩, h_x.below hb h_x.lt⟩) (fun W h => by obtain ⟨h_r, h_a, h_b, h_l, h_k, h_p, h_e, h_x⟩ := (S1_1D.out _).1 h; exact (S1_0D.out _).2 ⟨h_r, h_a, h_b, h_l, h_k, h_p, h_e⟩) ((S1_1D.out _).2 ⟨h_r.below hb, h_a.below hb h_a.lt, h_b.below hb h_b.lt, h_l.below hb, h_k.below hb, h_p.below hb, ⟨h_e.1.trans (hb.mono h_e.2), Nat.le_trans h_e.2 hb.size⟩, hX'⟩) ?_
    clear h_r h_a h_b h_l h_k h_p h_e
    clear hb hX' hgg
    try simp only [Act.put, List.setIfInBounds_toArray, List.set_cons_zero, List.set_cons_succ]
    refine Way.move 7 (by rfl) (by kernel_rfl) (by rfl) (fun wA hS => ?_)
    obtain ⟨h_r, h_a, h_b, h_l, h_k, h_p, h_e, h_x⟩ := (S1_1D.out _).1 hS
    clear hS
    obtain ⟨g9, c9, wC, hrun, ho9, hg9⟩ := app_wn (c0 := 1) h_r.op rfl h_x (by have := HLEN.out; exact this) h_e.2
    refine mgives_of (exec_append (.tmp 25) (.tmp 27) rfl hrun) ?_
    have HRr := Lib.hid h_r
    have HLl := Lib.hid h_l
    have HKk := Lib.hid h_k
    have HKPp := Lib.hid h_p
    have HAa := Lib.hid h_a
    have HBb := Lib.hid h_b
    have HEe := Lib.hid h_e
    obtain ⟨S1_2, S1_2D⟩ : ∃ S : World → Prop, Go.RowKit.Hid (∀ w' : World, S w' ↔ ((w'.ownsRow base 26 1 (.slice (some ⟨g9, 0, none⟩) (xs.length + 1) c9) (xs.length + 1) (P ++ [.slice A n c])) ∧ (wA.grownBy w' (some gp)))) := ⟨_, Lib.hid (fun _ => Iff.rfl)⟩
    refine Moved.turn S1_2 (fun W W' h hb => by obtain ⟨h_o, h_g⟩ := (S1_2D.out _).1 h; exact (S1_2D.out _).2 ⟨own_below h_o hb, grown_below h_g hb⟩) (by kernel_rfl) ((S1_2D.out _).2 ⟨ho9, hg9⟩) ?_
    clear h_r h_a h_b h_l h_k h_p h_e h_x
    try simp only [Act.put, List.setIfInBounds_toArray, List.set_cons_zero, List.set_cons_succ]
    clear hrun ho9 hg9
    first
      | (refine Way.no 8 (by rfl) (by kernel_rfl) (by rfl) ?_; simp only [Act.put, List.setIfInBounds_toArray, List.set_cons_zero, List.set_cons_succ])
      | (refine' Way.yes 8 (by rfl) (by kernel_rfl) (by rfl) (fun wS hS => ?_) ?_
         rotate_left
         · obtain ⟨h_o, h_g⟩ := (S1_2D.out _).1 hS
           go_simp
           first
             | exact ⟨rfl, Below.refl _ _⟩
         simp only [Act.put, List.setIfInBounds_toArray, List.set_cons_zero, List.set_cons_succ])
    first
      | (refine Way.no 9 (by rfl) (by kernel_rfl) (by rfl) ?_; simp only [Act.put, List.setIfInBounds_toArray, List.set_cons_zero, List.set_cons_succ])
      | (refine' Way.yes 9 (by rfl) (by kernel_rfl) (by rfl) (fun wS hS => ?_) ?_
         rotate_left
         · obtain ⟨h_o, h_g⟩ := (S1_2D.out _).1 hS
           go_simp
           first
             | exact ⟨rfl, Below.refl _ _⟩
         simp only [Act.put, List.setIfInBounds_toArray, List.set_cons_zero, List.set_cons_succ])
    refine Way.move 10 (by rfl) (by kernel_rfl) (by rfl) (fun wA hS => ?_)
    obtain ⟨h_o, h_g⟩ := (S1_2D.out _).1 hS
    clear hS
    have hrow2 := HRr.out.row.grown h_g (by simpa using HRr.out.ne_rp)
    have f0 := hrow2.frozen 0
    have c0 := hrow2.cell 0
    simp at c0
    go_simp
    obtain ⟨csB, hBB⟩ := HRr.out.blkp
    have h1 := HHI.out
    have h2 := HGP.out
    have h3 := HRB.out
    have ne_a : some w.heap.size ≠ some gp := by simp; omega
    have ne_b : some (w.heap.size + 1) ≠ some gp := by simp; omega
    have ne_ra : w.heap.size ≠ (⟨rb, 0, none⟩ : Addr).block := by simp; omega
    have ne_rb : w.heap.size + 1 ≠ (⟨rb, 0, none⟩ : Addr).block := by simp; omega
    clear h1 h2 h3
    obtain ⟨S1_3, S1_3D⟩ : ∃ S : World → Prop, Go.RowKit.Hid (∀ w' : World, S w' ↔ ((∃ h9, RowS base h9 w' rb g9 c9 gd cd (xs ++ [x]) xs (P ++ [.slice A n c]) D) ∧ (Blk w' w.heap.size 26 #[.slice A n c]) ∧ (Blk w' (w.heap.size + 1) 31 #[.slice B m d]) ∧ (NatL w' A n c x) ∧ (RatL w' B m d x) ∧ (Keeps hi w w') ∧ (Below base w w' ∧ base ≤ w'.heap.size))) := ⟨_, Lib.hid (fun _ => Iff.rfl)⟩
    refine Moved.turn S1_3 (fun W W' h hb => by obtain ⟨h_r, h_a, h_b, h_l, h_k, h_p, h_e⟩ := (S1_3D.out _).1 h; exact (S1_3D.out _).2 ⟨(by obtain ⟨h9, h⟩ := h_r; exact ⟨h9, h.below hb⟩), h_a.below hb h_a.lt, h_b.below hb h_b.lt, h_l.below hb, h_k.below hb, h_p.below hb, ⟨h_e.1.trans (hb.mono h_e.2), Nat.le_trans h_e.2 hb.size⟩⟩) (by kernel_rfl) ((S1_3D.out _).2 ⟨⟨_, HRr.out.pushP h_g h_o HLl.out HX.out⟩, (HAa.out.grown h_g ne_a).far ne_ra _, (HBb.out.grown h_g ne_b).far ne_rb _, (nat_grown HLl.out hBB (by decide) h_g).set hrow2 (by decide) _, (rat_grown HKk.out hBB (by decide) h_g).set hrow2 (by decide) _, HKPp.out.trans (keeps_push (D := [_, _]) HGP.out hBB (by decide) (by decide) h_g HRB.out HRr.out.row 0 _), ⟨(HEe.out.1.grown h_g HEe.out.2 (fun r hr => by injection hr with hr; rw [← hr]; exact HBP.out)).setCell HBR.out _, by rw [World.size_setCell]; exact Nat.le_trans HEe.out.2 h_g.size⟩⟩) ?_
    clear h_o h_g
    try simp only [Act.put, List.setIfInBounds_toArray, List.set_cons_zero, List.set_cons_succ]
    clear f0 c0 hrow2 hBB ne_a ne_b ne_ra ne_rb
    refine Way.done (by kernel_rfl) (fun wE hS => ?_)
    obtain ⟨h_r, h_a, h_b, h_l, h_k, h_p, h_e⟩ := (S1_3D.out _).1 hS
    have H_r := Lib.hid h_r
    have H_a := Lib.hid h_a
    have H_b := Lib.hid h_b
    have H_l := Lib.hid h_l
    have H_k := Lib.hid h_k
    have H_p := Lib.hid h_p
    have H_e := Lib.hid h_e
    clear hS h_r h_a h_b h_l h_k h_p h_e
    go_wp2_with fail
    go_meet
    obtain ⟨h9, h10⟩ := H_r.out
    exact ⟨_, _, h10.up, H_a.out, H_b.out, H_l.out, H_k.out, H_p.out, H_e.out.1⟩
  case rest =>
  obtain ⟨g2, c2, hr2, ha2, hb2, hl2, hk2, hkp2, hbe2⟩ := hcut
  have HR2 := Lib.hid hr2
  have HA2 := Lib.hid ha2
  have HB2 := Lib.hid hb2
  have HL2 := Lib.hid hl2
  have HK2 := Lib.hid hk2
  have HKP2 := Lib.hid hkp2
  have HBE2 := Lib.hid hbe2
  have HSZ2 := Lib.hid (show w.heap.size + 1 < wc.heap.size from hb2.lt)
  clear hr2 ha2 hb2 hl2 hk2 hkp2 hbe2
  go_upto_region 4 with fail
  go_cut [] from 31 to 40 (fun wx => ∃ g3 c3, RowS base wx.heap.size wx rb g2 c2 g3 c3 (xs ++ [x]) (xs ++ [x]) (P ++ [.slice A n c]) (D ++ [.slice B m d]) ∧ Blk wx w.heap.size 26 #[.slice A n c] ∧ Blk wx (w.heap.size + 1) 31 #[.slice B m d] ∧ NatL wx A n c x ∧ RatL wx B m d x ∧ Keeps hi w wx ∧ Below base w wx)
  case first =>
    obtain ⟨S2_0, S2_0D⟩ : ∃ S : World → Prop, Go.RowKit.Hid (∀ w' : World, S w' ↔ ((RowS base wc.heap.size w' rb g2 c2 gd cd (xs ++ [x]) xs (P ++ [.slice A n c]) D) ∧ (Blk w' w.heap.size 26 #[.slice A n c]) ∧ (Blk w' (w.heap.size + 1) 31 #[.slice B m d]) ∧ (NatL w' A n c x) ∧ (RatL w' B m d x) ∧ (Keeps hi w w') ∧ (Below base w w' ∧ base ≤ w'.heap.size))) := ⟨_, Lib.hid (fun _ => Iff.rfl)⟩
    refine wp_region_way (S := S2_0) (by kernel_rfl) (by kernel_rfl) (fun W W' h hb => by obtain ⟨h_r, h_a, h_b, h_l, h_k, h_p, h_e⟩ := (S2_0D.out _).1 h; exact (S2_0D.out _).2 ⟨h_r.below hb, h_a.below hb h_a.lt, h_b.below hb h_b.lt, h_l.below hb, h_k.below hb, h_p.below hb, ⟨h_e.1.trans (hb.mono h_e.2), Nat.le_trans h_e.2 hb.size⟩⟩) ((S2_0D.out _).2 ⟨HR2.out.below (Below.refl _ wc).drew, HA2.out.drew, HB2.out.drew, HL2.out.below (Below.refl _ wc).drew, HK2.out.below (Below.refl _ wc).drew, HKP2.out.below (Below.refl _ wc).drew, ⟨HBE2.out.drew, by rw [World.size_drew]; exact Nat.le_trans (Nat.le_trans HR2.out.brb (Nat.le_of_lt HR2.out.hrb)) HR2.out.le⟩⟩) ?_
    first
      | (refine Way.no 0 (by rfl) (by kernel_rfl) (by rfl) ?_; simp only [Act.put, List.setIfInBounds_toArray, List.set_cons_zero, List.set_cons_succ])
      | (refine' Way.yes 0 (by rfl) (by kernel_rfl) (by rfl) (fun wS hS => ?_) ?_
         rotate_left
         · obtain ⟨h_r, h_a, h_b, h_l, h_k, h_p, h_e⟩ := (S2_0D.out _).1 hS
           have c0 := h_r.c1
           have c6 := h_b.cell 0
           simp at c6
           go_simp
           first
             | exact ⟨rfl, Below.refl _ _⟩
         simp only [Act.put, List.setIfInBounds_toArray, List.set_cons_zero, List.set_cons_succ])
    first
      | (refine Way.no 1 (by rfl) (by kernel_rfl) (by rfl) ?_; simp only [Act.put, List.setIfInBounds_toArray, List.set_cons_zero, List.set_cons_succ])
      | (refine' Way.yes 1 (by rfl) (by kernel_rfl) (by rfl) (fun wS hS => ?_) ?_
         rotate_left
         · obtain ⟨h_r, h_a, h_b, h_l, h_k, h_p, h_e⟩ := (S2_0D.out _).1 hS
           have c0 := h_r.c1
           have c6 := h_b.cell 0
           simp at c6
           go_simp
           first
             | exact ⟨rfl, Below.refl _ _⟩
         simp only [Act.put, List.setIfInBounds_toArray, List.set_cons_zero, List.set_cons_succ])
    first
      | (refine Way.no 2 (by rfl) (by kernel_rfl) (by rfl) ?_; simp only [Act.put, List.setIfInBounds_toArray, List.set_cons_zero, List.set_cons_succ])
      | (refine' Way.yes 2 (by rfl) (by kernel_rfl) (by rfl) (fun wS hS => ?_) ?_
         rotate_left
         · obtain ⟨h_r, h_a, h_b, h_l, h_k, h_p, h_e⟩ := (S2_0D.out _).1 hS
           have c0 := h_r.c1
           have c6 := h_b.cell 0
           simp at c6
           go_simp
           first
             | exact ⟨rfl, Below.refl _ _⟩
         simp only [Act.put, List.setIfInBounds_toArray, List.set_cons_zero, List.set_cons_succ])
    first
      | (refine Way.no 3 (by rfl) (by kernel_rfl) (by rfl) ?_; simp only [Act.put, List.setIfInBounds_toArray, List.set_cons_zero, List.set_cons_succ])
      | (refine' Way.yes 3 (by rfl) (by kernel_rfl) (by rfl) (fun wS hS => ?_) ?_
         rotate_left
         · obtain ⟨h_r, h_a, h_b, h_l, h_k, h_p, h_e⟩ := (S2_0D.out _).1 hS
           have c0 := h_r.c1
           have c6 := h_b.cell 0
           simp at c6
           go_simp
           first
             | exact ⟨rfl, Below.refl _ _⟩
         simp only [Act.put, List.setIfInBounds_toArray, List.set_cons_zero, List.set_cons_succ])
    first
      | (refine Way.no 4 (by rfl) (by kernel_rfl) (by rfl) ?_; simp only [Act.put, List.setIfInBounds_toArray, List.set_cons_zero, List.set_cons_succ])
      | (refine' Way.yes 4 (by rfl) (by kernel_rfl) (by rfl) (fun wS hS => ?_) ?_
         rotate_left
         · obtain ⟨h_r, h_a, h_b, h_l, h_k, h_p, h_e⟩ := (S2_0D.out _).1 hS
           have c0 := h_r.c1
           have c6 := h_b.cell 0
           simp at c6
           go_simp
           first
             | exact ⟨rfl, Below.refl _ _⟩
         simp only [Act.put, List.setIfInBounds_toArray, List.set_cons_zero, List.set_cons_succ])
    first
      | (refine Way.no 5 (by rfl) (by kernel_rfl) (by rfl) ?_; simp only [Act.put, List.setIfInBounds_toArray, List.set_cons_zero, List.set_cons_succ])
      | (refine' Way.yes 5 (by rfl) (by kernel_rfl) (by rfl) (fun wS hS => ?_) ?_
         rotate_left
         · obtain ⟨h_r, h_a, h_b, h_l, h_k, h_p, h_e⟩ := (S2_0D.out _).1 hS
           have c0 := h_r.c1
           have c6 := h_b.cell 0
           simp at c6
           go_simp
           first
             | exact ⟨rfl, Below.refl _ _⟩
         simp only [Act.put, List.setIfInBounds_toArray, List.set_cons_zero, List.set_cons_succ])
    refine Way.move 6 (by rfl) (by kernel_rfl) (by rfl) (fun wA hS => ?_)
    obtain ⟨h_r, h_a, h_b, h_l, h_k, h_p, h_e⟩ := (S2_0D.out _).1 hS
    clear hS
    have hb := below_new wA (.cells #[.slice B m d] 31)
    have hX' := Blk.new wA 31 #[.slice B m d]
    go_simp
    obtain ⟨g, hgg⟩ : ∃ g, wA.heap.size = g := ⟨_, rfl⟩
    rw [hgg] at hX'
    simp only [hgg]
    obtain ⟨S2_1, S2_1D⟩ : ∃ S : World → Prop, Go.RowKit.Hid (∀ w' : World, S w' ↔ ((RowS base wc.heap.size w' rb g2 c2 gd cd (xs ++ [x]) xs (P ++ [.slice A n c]) D) ∧ (Blk w' w.heap.size 26 #[.slice A n c]) ∧ (Blk w' (w.heap.size + 1) 31 #[.slice B m d]) ∧ (NatL w' A n c x) ∧ (RatL w' B m d x) ∧ (Keeps hi w w') ∧ (Below base w w' ∧ base ≤ w'.heap.size) ∧ (Blk w' g 31 #[.slice B m d]))) := ⟨_, Lib.hid (fun _ => Iff.rfl)⟩
    refine Moved.keep S2_1 (fun W W' h hb => by obtain ⟨h_r, h_a, h_b, h_l, h_k, h_p, h_e, h_x⟩ := (S2_1D.out _).1 h; exact (S2_1D.out _).2 ⟨h_r.below hb, h_a.below hb h_a.lt, h_b.below hb h_b.lt, h_l.below hb, h_k.below hb, h_p.below hb, ⟨h_e.1.trans (hb.mono h_e.2), Nat.le_trans h_e.2 hb.size⟩, h_x.below hb h_x.lt⟩) (fun W h => by obtain ⟨h_r, h_a, h_b, h_l, h_k, h_p, h_e, h_x⟩ := (S2_1D.out _).1 h; exact (S2_0D.out _).2 ⟨h_r, h_a, h_b, h_l, h_k, h_p, h_e⟩) ((S2_1D.out _).2 ⟨h_r.below hb, h_a.below hb h_a.lt, h_b.below hb h_b.lt, h_l.below hb, h_k.below hb, h_p.below hb, ⟨h_e.1.trans (hb.mono h_e.2), Nat.le_trans h_e.2 hb.size⟩, hX'⟩) ?_
    clear h_r h_a h_b h_l h_k h_p h_e
    clear hb hX' hgg
    try simp only [Act.put, List.setIfInBounds_toArray, List.set_cons_zero, List.set_cons_succ]
    refine Way.move 7 (by rfl) (by kernel_rfl) (by rfl) (fun wA hS => ?_)
    obtain ⟨h_r, h_a, h_b, h_l, h_k, h_p, h_e, h_x⟩ := (S2_1D.out _).1 hS
    clear hS
    obtain ⟨g9, c9, wC, hrun, ho9, hg9⟩ := app_rn (c0 := 1) h_r.od rfl h_x (by have := HLEN.out; exact this) h_e.2
    refine mgives_of (exec_append (.tmp 35) (.tmp 37) rfl hrun) ?_
    have HRr := Lib.hid h_r
    have HLl := Lib.hid h_l
    have HKk := Lib.hid h_k
    have HKPp := Lib.hid h_p
    have HAa := Lib.hid h_a
    have HBb := Lib.hid h_b
    have HEe := Lib.hid h_e
    obtain ⟨S2_2, S2_2D⟩ : ∃ S : World → Prop, Go.RowKit.Hid (∀ w' : World, S w' ↔ ((w'.ownsRow base 31 1 (.slice (some ⟨g9, 0, none⟩) (xs.length + 1) c9) (xs.length + 1) (D ++ [.slice B m d])) ∧ (wA.grownBy w' (some gd)))) := ⟨_, Lib.hid (fun _ => Iff.rfl)⟩
    refine Moved.turn S2_2 (fun W W' h hb => by obtain ⟨h_o, h_g⟩ := (S2_2D.out _).1 h; exact (S2_2D.out _).2 ⟨own_below h_o hb, grown_below h_g hb⟩) (by kernel_rfl) ((S2_2D.out _).2 ⟨ho9, hg9⟩) ?_
    clear h_r h_a h_b h_l h_k h_p h_e h_x
    try simp only [Act.put, List.setIfInBounds_toArray, List.set_cons_zero, List.set_cons_succ]
    clear hrun ho9 hg9
    first
      | (refine Way.no 8 (by rfl) (by kernel_rfl) (by rfl) ?_; simp only [Act.put, List.setIfInBounds_toArray, List.set_cons_zero, List.set_cons_succ])
      | (refine' Way.yes 8 (by rfl) (by kernel_rfl) (by rfl) (fun wS hS => ?_) ?_
         rotate_left
         · obtain ⟨h_o, h_g⟩ := (S2_2D.out _).1 hS
           go_simp
           first
             | exact ⟨rfl, Below.refl _ _⟩
         simp only [Act.put, List.setIfInBounds_toArray, List.set_cons_zero, List.set_cons_succ])
    first
      | (refine Way.no 9 (by rfl) (by kernel_rfl) (by rfl) ?_; simp only [Act.put, List.setIfInBounds_toArray, List.set_cons_zero, List.set_cons_succ])
      | (refine' Way.yes 9 (by rfl) (by kernel_rfl) (by rfl) (fun wS hS => ?_) ?_
         rotate_left
         · obtain ⟨h_o, h_g⟩ := (S2_2D.out _).1 hS
           go_simp
           first
             | exact ⟨rfl, Below.refl _ _⟩
         simp only [Act.put, List.setIfInBounds_toArray, List.set_cons_zero, List.set_cons_succ])
    refine Way.move 10 (by rfl) (by kernel_rfl) (by rfl) (fun wA hS => ?_)
    obtain ⟨h_o, h_g⟩ := (S2_2D.out _).1 hS
    clear hS
    have hrow2 := HRr.out.row.grown h_g (by simpa using HRr.out.ne_rd)
    have f0 := hrow2.frozen 1
    have c0 := hrow2.cell 1
    simp at c0
    go_simp
    obtain ⟨csB, hBB⟩ := HRr.out.blkd
    have h1 := HHI.out
    have h2 := HGD.out
    have h3 := HRB.out
    have ne_a : some w.heap.size ≠ some gd := by simp; omega
    have ne_b : some (w.heap.size + 1) ≠ some gd := by simp; omega
    have ne_ra : w.heap.size ≠ (⟨rb, 1, none⟩ : Addr).block := by simp; omega
    have ne_rb : w.heap.size + 1 ≠ (⟨rb, 1, none⟩ : Addr).block := by simp; omega
    clear h1 h2 h3
    obtain ⟨S2_3, S2_3D⟩ : ∃ S : World → Prop, Go.RowKit.Hid (∀ w' : World, S w' ↔ ((∃ h9, RowS base h9 w' rb g2 c2 g9 c9 (xs ++ [x]) (xs ++ [x]) (P ++ [.slice A n c]) (D ++ [.slice B m d])) ∧ (Blk w' w.heap.size 26 #[.slice A n c]) ∧ (Blk w' (w.heap.size + 1) 31 #[.slice B m d]) ∧ (NatL w' A n c x) ∧ (RatL w' B m d x) ∧ (Keeps hi w w') ∧ (Below base w w' ∧ base ≤ w'.heap.size))) := ⟨_, Lib.hid (fun _ => Iff.rfl)⟩
    refine Moved.turn S2_3 (fun W W' h hb => by obtain ⟨h_r, h_a, h_b, h_l, h_k, h_p, h_e⟩ := (S2_3D.out _).1 h; exact (S2_3D.out _).2 ⟨(by obtain ⟨h9, h⟩ := h_r; exact ⟨h9, h.below hb⟩), h_a.below hb h_a.lt, h_b.below hb h_b.lt, h_l.below hb, h_k.below hb, h_p.below hb, ⟨h_e.1.trans (hb.mono h_e.2), Nat.le_trans h_e.2 hb.size⟩⟩) (by kernel_rfl) ((S2_3D.out _).2 ⟨⟨_, HRr.out.pushD h_g h_o HKk.out⟩, (HAa.out.grown h_g ne_a).far ne_ra _, (HBb.out.grown h_g ne_b).far ne_rb _, (nat_grown HLl.out hBB (by decide) h_g).set hrow2 (by decide) _, (rat_grown HKk.out hBB (by decide) h_g).set hrow2 (by decide) _, HKPp.out.trans (keeps_push (D := [_, _]) HGD.out hBB (by decide) (by decide) h_g HRB.out HRr.out.row 1 _), ⟨(HEe.out.1.grown h_g HEe.out.2 (fun r hr => by injection hr with hr; rw [← hr]; exact HBD.out)).setCell HBR.out _, by rw [World.size_setCell]; exact Nat.le_trans HEe.out.2 h_g.size⟩⟩) ?_
    clear h_o h_g
    try simp only [Act.put, List.setIfInBounds_toArray, List.set_cons_zero, List.set_cons_succ]
    clear f0 c0 hrow2 hBB ne_a ne_b ne_ra ne_rb
    refine Way.done (by kernel_rfl) (fun wE hS => ?_)
    obtain ⟨h_r, h_a, h_b, h_l, h_k, h_p, h_e⟩ := (S2_3D.out _).1 hS
    have H_r := Lib.hid h_r
    have H_a := Lib.hid h_a
    have H_b := Lib.hid h_b
    have H_l := Lib.hid h_l
    have H_k := Lib.hid h_k
    have H_p := Lib.hid h_p
    have H_e := Lib.hid h_e
    clear hS h_r h_a h_b h_l h_k h_p h_e
    go_wp2_with fail
    go_meet
    obtain ⟨h9, h10⟩ := H_r.out
    exact ⟨_, _, h10.up, H_a.out, H_b.out, H_l.out, H_k.out, H_p.out, H_e.out.1⟩
  case rest =>
  obtain ⟨g3, c3, hr3, ha3, hb3, hl3, hk3, hkp3, hbe3⟩ := hcut
  have HR3 := Lib.hid hr3
  have HA3 := Lib.hid ha3
  have HB3 := Lib.hid hb3
  have HTP := Lib.hid (fun W (hb : Below wc.heap.size wc W) => text_nat (.agg #[.slice A n c]) x W ⟨A, n, c, rfl, hl3.below hb⟩ (by have := HX.out; omega))
  obtain ⟨Y, hY⟩ : ∃ Y, Y = 4096 := ⟨_, rfl⟩
  have HTD := Lib.hid (fun W (hb : Below wc.heap.size wc W) => rtext_nat (.agg #[.slice B m d]) x Y W (hk3.below hb).w (blen_b4 HX.out rfl hY) (by omega))
  have HKP3 := Lib.hid hkp3
  have HBE3 := Lib.hid hbe3
  have HL3 := Lib.hid hr3.bgp
  have HL4 := Lib.hid (show base ≤ wc.heap.size from Nat.le_trans hr3.bgp (Nat.le_of_lt hr3.hgp))
  clear hr3 ha3 hb3 hl3 hk3 hkp3 hbe3 hY
  have htt : (dtext x == dtext x) = true := by simp
  generalize dtext x = t at *
  go_upto_region 5 with fail
  obtain ⟨S0_0, S0_0D⟩ : ∃ S : World → Prop, Go.RowKit.Hid (∀ w' : World, S w' ↔ ((Blk w' w.heap.size 26 #[.slice A n c]) ∧ (Blk w' (w.heap.size + 1) 31 #[.slice B m d]) ∧ (Below wc.heap.size wc w'))) := ⟨_, Lib.hid (fun _ => Iff.rfl)⟩
  refine wp_region_way (S := S0_0) (by kernel_rfl) (by kernel_rfl) (fun W W' h hb => by obtain ⟨h_a, h_b, h_q⟩ := (S0_0D.out _).1 h; exact (S0_0D.out _).2 ⟨h_a.below hb h_a.lt, h_b.below hb h_b.lt, keepb h_q hb⟩) ((S0_0D.out _).2 ⟨HA3.out.drew, HB3.out.drew, (Below.refl _ wc).drew⟩) ?_
  first
    | (refine Way.no 0 (by rfl) (by kernel_rfl) (by rfl) ?_; simp only [Act.put, List.setIfInBounds_toArray, List.set_cons_zero, List.set_cons_succ])
    | (refine' Way.yes 0 (by rfl) (by kernel_rfl) (by rfl) (fun wS hS => ?_) ?_
       rotate_left
       · obtain ⟨h_a, h_b, h_q⟩ := (S0_0D.out _).1 hS
         have c6 := h_a.cell 0
         have c8 := h_b.cell 0
         simp at c6 c8
         go_simp
         first
           | exact ⟨rfl, Below.refl _ _⟩
       simp only [Act.put, List.setIfInBounds_toArray, List.set_cons_zero, List.set_cons_succ])
  first
    | (refine Way.no 1 (by rfl) (by kernel_rfl) (by rfl) ?_; simp only [Act.put, List.setIfInBounds_toArray, List.set_cons_zero, List.set_cons_succ])
    | (refine' Way.yes 1 (by rfl) (by kernel_rfl) (by rfl) (fun wS hS => ?_) ?_
       rotate_left
       · obtain ⟨h_a, h_b, h_q⟩ := (S0_0D.out _).1 hS
         have c6 := h_a.cell 0
         have c8 := h_b.cell 0
         simp at c6 c8
         go_simp
         first
           | exact ⟨rfl, Below.refl _ _⟩
       simp only [Act.put, List.setIfInBounds_toArray, List.set_cons_zero, List.set_cons_succ])
  first
    | (refine Way.no 2 (by rfl) (by kernel_rfl) (by rfl) ?_; simp only [Act.put, List.setIfInBounds_toArray, List.set_cons_zero, List.set_cons_succ])
    | (refine' Way.yes 2 (by rfl) (by kernel_rfl) (by rfl) (fun wS hS => ?_) ?_
       rotate_left
       · obtain ⟨h_a, h_b, h_q⟩ := (S0_0D.out _).1 hS
         have c6 := h_a.cell 0
         have c8 := h_b.cell 0
         simp at c6 c8
         go_simp
         first
           | exact ⟨rfl, Below.refl _ _⟩
       simp only [Act.put, List.setIfInBounds_toArray, List.set_cons_zero, List.set_cons_succ])
  first
    | (refine Way.no 3 (by rfl) (by kernel_rfl) (by rfl) ?_; simp only [Act.put, List.setIfInBounds_toArray, List.set_cons_zero, List.set_cons_succ])
    | (refine' Way.yes 3 (by rfl) (by kernel_rfl) (by rfl) (fun wS hS => ?_) ?_
       rotate_left
       · obtain ⟨h_a, h_b, h_q⟩ := (S0_0D.out _).1 hS
         have c6 := h_a.cell 0
         have c8 := h_b.cell 0
         simp at c6 c8
         go_simp
         first
           | exact ⟨rfl, Below.refl _ _⟩
       simp only [Act.put, List.setIfInBounds_toArray, List.set_cons_zero, List.set_cons_succ])
  first
    | (refine Way.no 5 (by rfl) (by kernel_rfl) (by rfl) ?_; simp only [Act.put, List.setIfInBounds_toArray, List.set_cons_zero, List.set_cons_succ])
    | (refine' Way.yes 5 (by rfl) (by kernel_rfl) (by rfl) (fun wS hS => ?_) ?_
       rotate_left
       · obtain ⟨h_a, h_b, h_q⟩ := (S0_0D.out _).1 hS
         have c6 := h_a.cell 0
         have c8 := h_b.cell 0
         simp at c6 c8
         go_simp
         first
           | exact ⟨rfl, Below.refl _ _⟩
       simp only [Act.put, List.setIfInBounds_toArray, List.set_cons_zero, List.set_cons_succ])
  refine' Way.yes (v := .string ⟨t.toArray⟩) 4 (by rfl) (by kernel_rfl) (by rfl) (fun wS hS => ?_) ?_
  · obtain ⟨h_a, h_b, h_q⟩ := (S0_0D.out _).1 hS
    go_simp
    exact (HTP.out _ h_q).mono fun e w2 h => h
  simp only [Act.put, List.setIfInBounds_toArray, List.set_cons_zero, List.set_cons_succ]
  refine' Way.yes (v := .string ⟨t.toArray⟩) 6 (by rfl) (by kernel_rfl) (by rfl) (fun wS hS => ?_) ?_
  · obtain ⟨h_a, h_b, h_q⟩ := (S0_0D.out _).1 hS
    go_simp
    exact (HTD.out _ h_q).mono fun e w2 h => h
  simp only [Act.put, List.setIfInBounds_toArray, List.set_cons_zero, List.set_cons_succ]
  first
    | (refine Way.no 7 (by rfl) (by kernel_rfl) (by rfl) ?_; simp only [Act.put, List.setIfInBounds_toArray, List.set_cons_zero, List.set_cons_succ])
    | (refine' Way.yes 7 (by rfl) (by kernel_rfl) (by rfl) (fun wS hS => ?_) ?_
       rotate_left
       · obtain ⟨h_a, h_b, h_q⟩ := (S0_0D.out _).1 hS
         go_simp
         first
           | exact ⟨rfl, Below.refl _ _⟩
       simp only [Act.put, List.setIfInBounds_toArray, List.set_cons_zero, List.set_cons_succ])
  first
    | (refine Way.no 8 (by rfl) (by kernel_rfl) (by rfl) ?_; simp only [Act.put, List.setIfInBounds_toArray, List.set_cons_zero, List.set_cons_succ])
    | (refine' Way.yes 8 (by rfl) (by kernel_rfl) (by rfl) (fun wS hS => ?_) ?_
       rotate_left
       · obtain ⟨h_a, h_b, h_q⟩ := (S0_0D.out _).1 hS
         go_simp
         first
           | exact ⟨rfl, Below.refl _ _⟩
       simp only [Act.put, List.setIfInBounds_toArray, List.set_cons_zero, List.set_cons_succ])
  first
    | (refine Way.no 9 (by rfl) (by kernel_rfl) (by rfl) ?_; simp only [Act.put, List.setIfInBounds_toArray, List.set_cons_zero, List.set_cons_succ])
    | (refine' Way.yes 9 (by rfl) (by kernel_rfl) (by rfl) (fun wS hS => ?_) ?_
       rotate_left
       · obtain ⟨h_a, h_b, h_q⟩ := (S0_0D.out _).1 hS
         go_simp
         first
           | exact ⟨rfl, Below.refl _ _⟩
       simp only [Act.put, List.setIfInBounds_toArray, List.set_cons_zero, List.set_cons_succ])
  refine Way.done (by kernel_rfl) (fun wE hS => ?_)
  obtain ⟨h_a, h_b, h_q⟩ := (S0_0D.out _).1 hS
  have H_a := Lib.hid h_a
  have H_b := Lib.hid h_b
  have H_q := Lib.hid h_q
  clear hS h_a h_b h_q
  go_wp2_with fail
  go_ret
  exact ⟨rfl, ⟨_, _, _, _, _, _, _, HR3.out.below H_q.out⟩, HKP3.out.below H_q.out, HBE3.out.trans (H_q.out.mono HL4.out)⟩
end Go.Proofs.YtgihkmofpncobaaDoor
