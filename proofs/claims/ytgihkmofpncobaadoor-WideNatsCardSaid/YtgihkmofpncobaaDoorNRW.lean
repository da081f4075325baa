/- The law's made: the steps that make a number of no other one. -/
import Derived.Test.YtgihkmofpncobaaDoorNRV
namespace Go.Proofs.YtgihkmofpncobaaDoor
open Go.RowKit
set_option linter.unusedSimpArgs false
set_option linter.unusedVariables false

attribute [local go_sem] SGives_value SGives_skip SGives_enter CGives_value CGives_skip CGives_enter MGives_value MGives_skip MGives_enter
/-- What a step of the script leaves. -/
def StepP (base rb : Nat) (xs : List Nat) (w : World) (e : Ending) (w' : World) : Prop :=
  e = .returned (.bool true) ∧ (∃ h2 ys, xs.length ≤ ys.length ∧ ys.length ≤ xs.length + 2 ∧ Row base h2 w' rb ys) ∧ Below base w w'
theorem blen_w64 {x : Nat} (h : x < W64) : blen x ≤ 8192 := Nat.le_trans (blen_le.2 (show x < 2 ^ 64 from by unfold W64 at h; exact h)) (by decide)
theorem ta_spot (no at_ : Int) (w : World) : (Instr.typeAssert (spotV no at_) 44 60 true).run Tryd.prog w = .ok (.tuple #[.agg #[.int .i64 no, .int .i64 at_], .bool true]) w := by kernel_rfl
theorem pow_false {b M : Nat} {n : Int} (h : lessV (powV b n M).2 11 = 0) : (powV b n M).2 = true := by
  cases h2 : (powV b n M).2 with
  | true => rfl
  | false => rw [h2] at h; exact absurd h (by decide)
set_option maxRecDepth 4000000 in
set_option maxHeartbeats 4000000 in
theorem made0 (base hi rb : Nat) (xs : List Nat) (a b K : Int) (N M Y : Nat) (s : List UInt8) (w : World) (hrow : Row base hi w rb xs) (hN : N < W64) (hs : s.length ≤ 1000000000000000) (hM : M = 8192) (hlen : (xs.length + 1) * 24 ≤ 140737488355328) :
    Calls Tryd.prog 5 #[.pointer (some ⟨rb, 0, none⟩), .agg #[.int .i64 0, .int .i64 a, .int .i64 b, wv N, .int .i64 K, .string ⟨s.toArray⟩]] w (StepP base rb xs w) := by
  have hbl := hrow.base_le
  obtain ⟨W0, hW0⟩ : ∃ W0, w.alloc (.cells #[.int .i64 0, .int .i64 a, .int .i64 b, wv N, .int .i64 K, .string ⟨s.toArray⟩] 37) = W0 := ⟨_, rfl⟩
  have hb0 : Below w.heap.size w W0 := by rw [← hW0]; exact below_new _ _
  have H_o := Lib.hid (show Blk W0 w.heap.size 37 #[.int .i64 0, .int .i64 a, .int .i64 b, wv N, .int .i64 K, .string ⟨s.toArray⟩] by rw [← hW0]; exact Blk.new _ _ _)
  have H_r := Lib.hid (hrow.below hb0)
  have H_e := Lib.hid (show Below base w W0 ∧ base ≤ W0.heap.size from ⟨hb0.mono hbl, Nat.le_trans hbl hb0.size⟩)
  have HPUT := Lib.hid (fun x no A B n c m d er W hr ha hk => put_any base hi rb xs x no A B n c m d er W hr ha hk hlen)
  have HOF := Lib.hid (fun W => (show Calls Tryd.prog 14 #[.int .u64 (N : Int)] W (NatV N W) from of_nat N W hN))
  have HRF := Lib.hid (fun W => (show Calls Tryd.prog 15 #[.int .u64 (N : Int)] W (RatV N W) from rof_nat N W hN))
  have HBL := Lib.hid (blen_w64 hN)
  clear hrow hb0 hlen hbl hN
  go_enter Tryd.func5, Tryd.ntmps5
  go_upto_region 1 with fail
  clear hW0
  have c0 := H_o.out.cell 0
  simp only [List.getElem?_toArray, List.getElem?_cons_zero, List.getElem?_cons_succ] at c0
  go_upto_region 3 with fail
  clear c0
  obtain ⟨S0_0, S0_0D⟩ : ∃ S : World → Prop, Go.RowKit.Hid (∀ w' : World, S w' ↔ ((Blk w' w.heap.size 37 #[.int .i64 0, .int .i64 a, .int .i64 b, wv N, .int .i64 K, .string ⟨s.toArray⟩]) ∧ (Row base hi w' rb xs) ∧ (Below base w w' ∧ base ≤ w'.heap.size))) := ⟨_, Lib.hid (fun _ => Iff.rfl)⟩
  refine wp_region_way (S := S0_0) (by kernel_rfl) (by kernel_rfl) (fun W W' h hb => by obtain ⟨h_o, h_r, h_e⟩ := (S0_0D.out _).1 h; exact (S0_0D.out _).2 ⟨h_o.below hb h_o.lt, h_r.below hb, ⟨h_e.1.trans (hb.mono h_e.2), Nat.le_trans h_e.2 hb.size⟩⟩) ((S0_0D.out _).2 ⟨H_o.out.below (Below.refl W0.heap.size W0).drew H_o.out.lt, H_r.out.below (Below.refl W0.heap.size W0).drew, ⟨H_e.out.1.trans ((Below.refl W0.heap.size W0).drew.mono H_e.out.2), Nat.le_trans H_e.out.2 (Below.refl W0.heap.size W0).drew.size⟩⟩) ?_
  first
    | (refine Way.no 0 (by rfl) (by kernel_rfl) (by rfl) ?_; simp only [Act.put, List.setIfInBounds_toArray, List.set_cons_zero, List.set_cons_succ])
    | (refine' Way.yes 0 (by rfl) (by kernel_rfl) (by rfl) (fun wS hS => ?_) ?_
       rotate_left
       · obtain ⟨h_o, h_r, h_e⟩ := (S0_0D.out _).1 hS
         have c3 := h_o.cell 3
         simp only [List.getElem?_toArray, List.getElem?_cons_zero, List.getElem?_cons_succ] at c3
         go_simp
         first
           | exact ⟨rfl, Below.refl _ _⟩
       simp only [Act.put, List.setIfInBounds_toArray, List.set_cons_zero, List.set_cons_succ])
  first
    | (refine Way.no 1 (by rfl) (by kernel_rfl) (by rfl) ?_; simp only [Act.put, List.setIfInBounds_toArray, List.set_cons_zero, List.set_cons_succ])
    | (refine' Way.yes 1 (by rfl) (by kernel_rfl) (by rfl) (fun wS hS => ?_) ?_
       rotate_left
       · obtain ⟨h_o, h_r, h_e⟩ := (S0_0D.out _).1 hS
         have c3 := h_o.cell 3
         simp only [List.getElem?_toArray, List.getElem?_cons_zero, List.getElem?_cons_succ] at c3
         go_simp
         first
           | exact ⟨rfl, Below.refl _ _⟩
       simp only [Act.put, List.setIfInBounds_toArray, List.set_cons_zero, List.set_cons_succ])
  first
    | (refine Way.no 2 (by rfl) (by kernel_rfl) (by rfl) ?_; simp only [Act.put, List.setIfInBounds_toArray, List.set_cons_zero, List.set_cons_succ])
    | (refine' Way.yes 2 (by rfl) (by kernel_rfl) (by rfl) (fun wS hS => ?_) ?_
       rotate_left
       · obtain ⟨h_o, h_r, h_e⟩ := (S0_0D.out _).1 hS
         have c3 := h_o.cell 3
         simp only [List.getElem?_toArray, List.getElem?_cons_zero, List.getElem?_cons_succ] at c3
         go_simp
         first
           | exact ⟨rfl, Below.refl _ _⟩
       simp only [Act.put, List.setIfInBounds_toArray, List.set_cons_zero, List.set_cons_succ])
  first
    | (refine Way.no 4 (by rfl) (by kernel_rfl) (by rfl) ?_; simp only [Act.put, List.setIfInBounds_toArray, List.set_cons_zero, List.set_cons_succ])
    | (refine' Way.yes 4 (by rfl) (by kernel_rfl) (by rfl) (fun wS hS => ?_) ?_
       rotate_left
       · obtain ⟨h_o, h_r, h_e⟩ := (S0_0D.out _).1 hS
         have c3 := h_o.cell 3
         simp only [List.getElem?_toArray, List.getElem?_cons_zero, List.getElem?_cons_succ] at c3
         go_simp
         first
           | exact ⟨rfl, Below.refl _ _⟩
       simp only [Act.put, List.setIfInBounds_toArray, List.set_cons_zero, List.set_cons_succ])
  first
    | (refine Way.no 5 (by rfl) (by kernel_rfl) (by rfl) ?_; simp only [Act.put, List.setIfInBounds_toArray, List.set_cons_zero, List.set_cons_succ])
    | (refine' Way.yes 5 (by rfl) (by kernel_rfl) (by rfl) (fun wS hS => ?_) ?_
       rotate_left
       · obtain ⟨h_o, h_r, h_e⟩ := (S0_0D.out _).1 hS
         have c3 := h_o.cell 3
         simp only [List.getElem?_toArray, List.getElem?_cons_zero, List.getElem?_cons_succ] at c3
         go_simp
         first
           | exact ⟨rfl, Below.refl _ _⟩
       simp only [Act.put, List.setIfInBounds_toArray, List.set_cons_zero, List.set_cons_succ])
  refine Way.move 3 (by rfl) (by kernel_rfl) (by rfl) (fun wA hS => ?_)
  obtain ⟨h_o, h_r, h_e⟩ := (S0_0D.out _).1 hS
  clear hS
  go_simp
  refine (HOF.out _).mono ?_
  rintro e wN hv
  obtain ⟨A1, n1, c1, rfl, hl, hb⟩ := hv.open
  refine ⟨_, rfl, ?_⟩
  obtain ⟨S0_1, S0_1D⟩ : ∃ S : World → Prop, Go.RowKit.Hid (∀ w' : World, S w' ↔ ((Blk w' w.heap.size 37 #[.int .i64 0, .int .i64 a, .int .i64 b, wv N, .int .i64 K, .string ⟨s.toArray⟩]) ∧ (Row base hi w' rb xs) ∧ (Below base w w' ∧ base ≤ w'.heap.size) ∧ (NatL w' A1 n1 c1 N))) := ⟨_, Lib.hid (fun _ => Iff.rfl)⟩
  refine Moved.keep S0_1 (fun W W' h hb => by obtain ⟨h_o, h_r, h_e, h_p⟩ := (S0_1D.out _).1 h; exact (S0_1D.out _).2 ⟨h_o.below hb h_o.lt, h_r.below hb, ⟨h_e.1.trans (hb.mono h_e.2), Nat.le_trans h_e.2 hb.size⟩, h_p.below hb⟩) (fun W h => by obtain ⟨h_o, h_r, h_e, h_p⟩ := (S0_1D.out _).1 h; exact (S0_0D.out _).2 ⟨h_o, h_r, h_e⟩) ((S0_1D.out _).2 ⟨h_o.below hb h_o.lt, h_r.below hb, ⟨h_e.1.trans (hb.mono h_e.2), Nat.le_trans h_e.2 hb.size⟩, hl⟩) ?_
  clear h_o h_r h_e
  clear hl hb hv
  try simp only [Act.put, List.setIfInBounds_toArray, List.set_cons_zero, List.set_cons_succ]
  refine Way.move 6 (by rfl) (by kernel_rfl) (by rfl) (fun wA hS => ?_)
  obtain ⟨h_o, h_r, h_e, h_p⟩ := (S0_1D.out _).1 hS
  clear hS
  go_simp
  refine (HRF.out _).mono ?_
  rintro e wN ⟨A2, n2, c2, rfl, hl, hb⟩
  refine ⟨_, rfl, ?_⟩
  obtain ⟨S0_2, S0_2D⟩ : ∃ S : World → Prop, Go.RowKit.Hid (∀ w' : World, S w' ↔ ((Blk w' w.heap.size 37 #[.int .i64 0, .int .i64 a, .int .i64 b, wv N, .int .i64 K, .string ⟨s.toArray⟩]) ∧ (Row base hi w' rb xs) ∧ (Below base w w' ∧ base ≤ w'.heap.size) ∧ (NatL w' A1 n1 c1 N) ∧ (RatL w' A2 n2 c2 N))) := ⟨_, Lib.hid (fun _ => Iff.rfl)⟩
  refine Moved.keep S0_2 (fun W W' h hb => by obtain ⟨h_o, h_r, h_e, h_p, h_d⟩ := (S0_2D.out _).1 h; exact (S0_2D.out _).2 ⟨h_o.below hb h_o.lt, h_r.below hb, ⟨h_e.1.trans (hb.mono h_e.2), Nat.le_trans h_e.2 hb.size⟩, h_p.below hb, h_d.below hb⟩) (fun W h => by obtain ⟨h_o, h_r, h_e, h_p, h_d⟩ := (S0_2D.out _).1 h; exact (S0_1D.out _).2 ⟨h_o, h_r, h_e, h_p⟩) ((S0_2D.out _).2 ⟨h_o.below hb h_o.lt, h_r.below hb, ⟨h_e.1.trans (hb.mono h_e.2), Nat.le_trans h_e.2 hb.size⟩, h_p.below hb, hl⟩) ?_
  clear h_o h_r h_e h_p
  clear hl hb
  try simp only [Act.put, List.setIfInBounds_toArray, List.set_cons_zero, List.set_cons_succ]
  refine Way.move 7 (by rfl) (by kernel_rfl) (by rfl) (fun wA hS => ?_)
  obtain ⟨h_o, h_r, h_e, h_p, h_d⟩ := (S0_2D.out _).1 hS
  clear hS
  go_simp
  refine (HPUT.out N 0 A1 A2 n1 c1 n2 c2 .nilIface _ h_r (.inl ⟨rfl, rfl, h_p, HBL.out⟩) (fun _ => h_d)).mono ?_
  rintro e wN ⟨rfl, hz, _, hbe⟩
  refine ⟨_, rfl, ?_⟩
  obtain ⟨S0_3, S0_3D⟩ : ∃ S : World → Prop, Go.RowKit.Hid (∀ w' : World, S w' ↔ ((∃ h2 ys, xs.length ≤ ys.length ∧ ys.length ≤ xs.length + 1 ∧ Row base h2 w' rb ys) ∧ (Below base w w' ∧ base ≤ w'.heap.size))) := ⟨_, Lib.hid (fun _ => Iff.rfl)⟩
  refine Moved.turn S0_3 (fun W W' h hb => by obtain ⟨h_z, h_e⟩ := (S0_3D.out _).1 h; exact (S0_3D.out _).2 ⟨(by obtain ⟨h2, ys, h3, h4, h5⟩ := h_z; exact ⟨h2, ys, h3, h4, h5.below hb⟩), ⟨h_e.1.trans (hb.mono h_e.2), Nat.le_trans h_e.2 hb.size⟩⟩) (by kernel_rfl) ((S0_3D.out _).2 ⟨hz, ⟨h_e.1.trans hbe, by obtain ⟨_, _, _, _, h⟩ := hz; exact h.base_le⟩⟩) ?_
  clear h_o h_r h_e h_p h_d
  try simp only [Act.put, List.setIfInBounds_toArray, List.set_cons_zero, List.set_cons_succ]
  clear hz hbe
  first
    | (refine Way.no 8 (by rfl) (by kernel_rfl) (by rfl) ?_; simp only [Act.put, List.setIfInBounds_toArray, List.set_cons_zero, List.set_cons_succ])
    | (refine' Way.yes 8 (by rfl) (by kernel_rfl) (by rfl) (fun wS hS => ?_) ?_
       rotate_left
       · obtain ⟨h_z, h_e⟩ := (S0_3D.out _).1 hS
         go_simp
         first
           | exact ⟨rfl, Below.refl _ _⟩
       simp only [Act.put, List.setIfInBounds_toArray, List.set_cons_zero, List.set_cons_succ])
  refine Way.done (by kernel_rfl) (fun wE hS => ?_)
  obtain ⟨h_z, h_e⟩ := (S0_3D.out _).1 hS
  have H_z := Lib.hid h_z
  have H_e := Lib.hid h_e
  clear hS h_z h_e
  go_wp2_with fail
  go_ret
  obtain ⟨h2, ys, h3, h4, h5⟩ := H_z.out
  exact ⟨rfl, ⟨h2, ys, h3, by omega, h5⟩, H_e.out.1⟩
set_option maxRecDepth 4000000 in
set_option maxHeartbeats 4000000 in
theorem made1n (base hi rb : Nat) (xs : List Nat) (a b K : Int) (N M Y : Nat) (s : List UInt8) (w : World) (hrow : Row base hi w rb xs) (hN : N < W64) (hs : s.length ≤ 1000000000000000) (hM : M = 8192) (hlen : (xs.length + 1) * 24 ≤ 140737488355328) (hK : K < 0) :
    Calls Tryd.prog 5 #[.pointer (some ⟨rb, 0, none⟩), .agg #[.int .i64 1, .int .i64 a, .int .i64 b, wv N, .int .i64 K, .string ⟨s.toArray⟩]] w (StepP base rb xs w) := by
  have hbl := hrow.base_le
  obtain ⟨W0, hW0⟩ : ∃ W0, w.alloc (.cells #[.int .i64 1, .int .i64 a, .int .i64 b, wv N, .int .i64 K, .string ⟨s.toArray⟩] 37) = W0 := ⟨_, rfl⟩
  have hb0 : Below w.heap.size w W0 := by rw [← hW0]; exact below_new _ _
  have H_o := Lib.hid (show Blk W0 w.heap.size 37 #[.int .i64 1, .int .i64 a, .int .i64 b, wv N, .int .i64 K, .string ⟨s.toArray⟩] by rw [← hW0]; exact Blk.new _ _ _)
  have H_r := Lib.hid (hrow.below hb0)
  have H_e := Lib.hid (show Below base w W0 ∧ base ≤ W0.heap.size from ⟨hb0.mono hbl, Nat.le_trans hbl hb0.size⟩)
  have HPUT := Lib.hid (fun x no A B n c m d er W hr ha hk => put_any base hi rb xs x no A B n c m d er W hr ha hk hlen)
  have HPW := Lib.hid (fun W => power_neg (N : Int) K W hK)
  have t1 : decide (K < 0) = true := decide_eq_true hK
  clear hrow hb0 hlen hbl hN hK
  go_enter Tryd.func5, Tryd.ntmps5
  go_upto_region 1 with fail
  clear hW0
  have c0 := H_o.out.cell 0
  simp only [List.getElem?_toArray, List.getElem?_cons_zero, List.getElem?_cons_succ] at c0
  have c3 := H_o.out.cell 3
  simp only [List.getElem?_toArray, List.getElem?_cons_zero, List.getElem?_cons_succ] at c3
  have c4 := H_o.out.cell 4
  simp only [List.getElem?_toArray, List.getElem?_cons_zero, List.getElem?_cons_succ] at c4
  go_wp2_with fail
  refine (HPW.out _).mono ?_
  rintro e w1 ⟨rfl, hb⟩
  clear c0 c3 c4
  have K_o := Lib.hid (show Blk w1 w.heap.size 37 #[.int .i64 1, .int .i64 a, .int .i64 b, wv N, .int .i64 K, .string ⟨s.toArray⟩] from H_o.out.below hb H_o.out.lt)
  have K_r := Lib.hid (show Row base hi w1 rb xs from H_r.out.below hb)
  have K_e := Lib.hid (show Below base w w1 ∧ base ≤ w1.heap.size from ⟨H_e.out.1.trans (hb.mono H_e.out.2), Nat.le_trans H_e.out.2 hb.size⟩)
  clear hb H_o H_r H_e
  go_upto_region 6 with fail
  obtain ⟨V1, hV1⟩ : ∃ V, (w1.alloc (.cells #[.slice none 0 0] 26)) = V := ⟨_, rfl⟩
  have hbn : Below w1.heap.size w1 V1 := by rw [← hV1]; go_grown
  have H_o := Lib.hid (show Blk V1 w.heap.size 37 #[.int .i64 1, .int .i64 a, .int .i64 b, wv N, .int .i64 K, .string ⟨s.toArray⟩] from K_o.out.below hbn K_o.out.lt)
  have H_r := Lib.hid (show Row base hi V1 rb xs from K_r.out.below hbn)
  have H_e := Lib.hid (show Below base w V1 ∧ base ≤ V1.heap.size from ⟨K_e.out.1.trans (hbn.mono K_e.out.2), Nat.le_trans K_e.out.2 hbn.size⟩)
  have B_x := Lib.hid (show Blk V1 w1.heap.size 26 #[.slice none 0 0] from by rw [← hV1]; exact Blk.new w1 26 #[.slice none 0 0])
  obtain ⟨g1, hg1⟩ : ∃ g, w1.heap.size = g := ⟨_, rfl⟩
  simp only [hV1, hg1] at B_x ⊢
  have H_x := B_x
  clear hV1 hg1 hbn K_o K_r K_e B_x
  have c4 := H_o.out.cell 4
  simp only [List.getElem?_toArray, List.getElem?_cons_zero, List.getElem?_cons_succ] at c4
  have cx := H_x.out.cell 0
  simp only [List.getElem?_toArray, List.getElem?_cons_zero, List.getElem?_cons_succ] at cx
  go_wp2_with fail
  refine (HPUT.out 0 2 none none 0 0 0 0 (enoV 2) _ H_r.out (.inr ⟨by decide, rfl, rfl, rfl, rfl⟩) (fun h => absurd h (by decide))).mono ?_
  rintro e wN ⟨rfl, hz, _, hbe⟩
  have H_z := Lib.hid hz
  have H_b := Lib.hid hbe
  clear c4 cx
  clear hz hbe
  go_wp2_with fail
  go_ret
  obtain ⟨h2, ys, h3, h4, h5⟩ := H_z.out
  exact ⟨rfl, ⟨h2, ys, h3, by omega, h5⟩, H_e.out.1.trans H_b.out⟩
set_option maxRecDepth 4000000 in
set_option maxHeartbeats 4000000 in
theorem made1p (base hi rb : Nat) (xs : List Nat) (a b K : Int) (N M Y : Nat) (s : List UInt8) (w : World) (hrow : Row base hi w rb xs) (hN : N < W64) (hs : s.length ≤ 1000000000000000) (hM : M = 8192) (hlen : (xs.length + 1) * 24 ≤ 140737488355328) (hK : 0 ≤ K) :
    Calls Tryd.prog 5 #[.pointer (some ⟨rb, 0, none⟩), .agg #[.int .i64 1, .int .i64 a, .int .i64 b, wv N, .int .i64 K, .string ⟨s.toArray⟩]] w (StepP base rb xs w) := by
  have hbl := hrow.base_le
  obtain ⟨W0, hW0⟩ : ∃ W0, w.alloc (.cells #[.int .i64 1, .int .i64 a, .int .i64 b, wv N, .int .i64 K, .string ⟨s.toArray⟩] 37) = W0 := ⟨_, rfl⟩
  have hb0 : Below w.heap.size w W0 := by rw [← hW0]; exact below_new _ _
  have H_o := Lib.hid (show Blk W0 w.heap.size 37 #[.int .i64 1, .int .i64 a, .int .i64 b, wv N, .int .i64 K, .string ⟨s.toArray⟩] by rw [← hW0]; exact Blk.new _ _ _)
  have H_r := Lib.hid (hrow.below hb0)
  have H_e := Lib.hid (show Below base w W0 ∧ base ≤ W0.heap.size from ⟨hb0.mono hbl, Nat.le_trans hbl hb0.size⟩)
  have HPUT := Lib.hid (fun x no A B n c m d er W hr ha hk => put_any base hi rb xs x no A B n c m d er W hr ha hk hlen)
  have HPW := Lib.hid (fun W => (show Calls Tryd.prog 16 #[.int .u64 (N : Int), .int .i64 K] W (AnsE (powV N K M).1 (lessV (powV N K M).2 11) W) from power_any N M K W hN hK hM))
  have HRP := Lib.hid (fun W => (show Calls Tryd.prog 17 #[.int .u64 (N : Int), .int .i64 K] W (PowP (powV N K M).1 (powV N K M).2 W) from rpower_nat N M K W hN hM))
  have HLS := Lib.hid (fun W => less_any (powV N K M).2 11 W)
  have t1 : decide (K < 0) = false := decide_eq_false (by omega)
  obtain ⟨X, hX⟩ : ∃ X, (powV N K M).1 = X := ⟨_, rfl⟩
  obtain ⟨G, hG⟩ : ∃ G, (powV N K M).2 = G := ⟨_, rfl⟩
  rw [hX, hG] at HPW HRP
  rw [hG] at HLS
  obtain ⟨no, hno⟩ : ∃ no, lessV G 11 = no := ⟨_, rfl⟩
  rw [hno] at HPW HLS
  clear hrow hb0 hlen hbl hN hK hX hG hno
  go_enter Tryd.func5, Tryd.ntmps5
  go_upto_region 1 with fail
  clear hW0
  have c0 := H_o.out.cell 0
  simp only [List.getElem?_toArray, List.getElem?_cons_zero, List.getElem?_cons_succ] at c0
  have c3 := H_o.out.cell 3
  simp only [List.getElem?_toArray, List.getElem?_cons_zero, List.getElem?_cons_succ] at c3
  have c4 := H_o.out.cell 4
  simp only [List.getElem?_toArray, List.getElem?_cons_zero, List.getElem?_cons_succ] at c4
  go_wp2_with fail
  refine (HPW.out _).mono ?_
  rintro e w1 ⟨A1, n1, c1, er, rfl, ha, hb⟩
  clear c0 c3 c4
  have K_o := Lib.hid (show Blk w1 w.heap.size 37 #[.int .i64 1, .int .i64 a, .int .i64 b, wv N, .int .i64 K, .string ⟨s.toArray⟩] from H_o.out.below hb H_o.out.lt)
  have K_r := Lib.hid (show Row base hi w1 rb xs from H_r.out.below hb)
  have K_e := Lib.hid (show Below base w w1 ∧ base ≤ w1.heap.size from ⟨H_e.out.1.trans (hb.mono H_e.out.2), Nat.le_trans H_e.out.2 hb.size⟩)
  have K_p := Lib.hid (show Ans X no w1 A1 n1 c1 er from ha)
  clear hb H_o H_r H_e
  clear ha
  go_upto_region 6 with fail
  obtain ⟨V1, hV1⟩ : ∃ V, (w1.alloc (.cells #[.slice A1 n1 c1] 26)) = V := ⟨_, rfl⟩
  have hbn : Below w1.heap.size w1 V1 := by rw [← hV1]; go_grown
  have H_o := Lib.hid (show Blk V1 w.heap.size 37 #[.int .i64 1, .int .i64 a, .int .i64 b, wv N, .int .i64 K, .string ⟨s.toArray⟩] from K_o.out.below hbn K_o.out.lt)
  have H_r := Lib.hid (show Row base hi V1 rb xs from K_r.out.below hbn)
  have H_e := Lib.hid (show Below base w V1 ∧ base ≤ V1.heap.size from ⟨K_e.out.1.trans (hbn.mono K_e.out.2), Nat.le_trans K_e.out.2 hbn.size⟩)
  have H_p := Lib.hid (show Ans X no V1 A1 n1 c1 er from K_p.out.below hbn)
  have B_x := Lib.hid (show Blk V1 w1.heap.size 26 #[.slice A1 n1 c1] from by rw [← hV1]; exact Blk.new w1 26 #[.slice A1 n1 c1])
  obtain ⟨g1, hg1⟩ : ∃ g, w1.heap.size = g := ⟨_, rfl⟩
  simp only [hV1, hg1] at B_x ⊢
  have H_x := B_x
  clear hV1 hg1 hbn K_o K_r K_e K_p B_x
  have c3 := H_o.out.cell 3
  simp only [List.getElem?_toArray, List.getElem?_cons_zero, List.getElem?_cons_succ] at c3
  have c4 := H_o.out.cell 4
  simp only [List.getElem?_toArray, List.getElem?_cons_zero, List.getElem?_cons_succ] at c4
  go_wp2_with fail
  refine (HRP.out _).mono ?_
  rintro e w2 ⟨A2, n2, c2, rfl, hl, hb⟩
  clear c3 c4
  have K_o := Lib.hid (show Blk w2 w.heap.size 37 #[.int .i64 1, .int .i64 a, .int .i64 b, wv N, .int .i64 K, .string ⟨s.toArray⟩] from H_o.out.below hb H_o.out.lt)
  have K_r := Lib.hid (show Row base hi w2 rb xs from H_r.out.below hb)
  have K_e := Lib.hid (show Below base w w2 ∧ base ≤ w2.heap.size from ⟨H_e.out.1.trans (hb.mono H_e.out.2), Nat.le_trans H_e.out.2 hb.size⟩)
  have K_p := Lib.hid (show Ans X no w2 A1 n1 c1 er from H_p.out.below hb)
  have K_x := Lib.hid (show Blk w2 g1 26 #[.slice A1 n1 c1] from H_x.out.below hb H_x.out.lt)
  have K_d := Lib.hid (show RatL w2 A2 n2 c2 X from hl)
  clear hb H_o H_r H_e H_p H_x
  clear hl
  go_upto_region 9 with fail
  obtain ⟨V2, hV2⟩ : ∃ V, (w2.alloc (.cells #[.slice A2 n2 c2] 31)) = V := ⟨_, rfl⟩
  have hbn : Below w2.heap.size w2 V2 := by rw [← hV2]; go_grown
  have H_o := Lib.hid (show Blk V2 w.heap.size 37 #[.int .i64 1, .int .i64 a, .int .i64 b, wv N, .int .i64 K, .string ⟨s.toArray⟩] from K_o.out.below hbn K_o.out.lt)
  have H_r := Lib.hid (show Row base hi V2 rb xs from K_r.out.below hbn)
  have H_e := Lib.hid (show Below base w V2 ∧ base ≤ V2.heap.size from ⟨K_e.out.1.trans (hbn.mono K_e.out.2), Nat.le_trans K_e.out.2 hbn.size⟩)
  have H_p := Lib.hid (show Ans X no V2 A1 n1 c1 er from K_p.out.below hbn)
  have H_x := Lib.hid (show Blk V2 g1 26 #[.slice A1 n1 c1] from K_x.out.below hbn K_x.out.lt)
  have H_d := Lib.hid (show RatL V2 A2 n2 c2 X from K_d.out.below hbn)
  have B_y := Lib.hid (show Blk V2 w2.heap.size 31 #[.slice A2 n2 c2] from by rw [← hV2]; exact Blk.new w2 31 #[.slice A2 n2 c2])
  obtain ⟨g2, hg2⟩ : ∃ g, w2.heap.size = g := ⟨_, rfl⟩
  simp only [hV2, hg2] at B_y ⊢
  have H_y := B_y
  clear hV2 hg2 hbn K_o K_r K_e K_p K_x K_d B_y
  obtain ⟨S1_0, S1_0D⟩ : ∃ S : World → Prop, Go.RowKit.Hid (∀ w' : World, S w' ↔ ((Blk w' w.heap.size 37 #[.int .i64 1, .int .i64 a, .int .i64 b, wv N, .int .i64 K, .string ⟨s.toArray⟩]) ∧ (Row base hi w' rb xs) ∧ (Below base w w' ∧ base ≤ w'.heap.size) ∧ (Ans X no w' A1 n1 c1 er) ∧ (Blk w' g1 26 #[.slice A1 n1 c1]) ∧ (RatL w' A2 n2 c2 X) ∧ (Blk w' g2 31 #[.slice A2 n2 c2]))) := ⟨_, Lib.hid (fun _ => Iff.rfl)⟩
  refine wp_region_way (S := S1_0) (by kernel_rfl) (by kernel_rfl) (fun W W' h hb => by obtain ⟨h_o, h_r, h_e, h_p, h_x, h_d, h_y⟩ := (S1_0D.out _).1 h; exact (S1_0D.out _).2 ⟨h_o.below hb h_o.lt, h_r.below hb, ⟨h_e.1.trans (hb.mono h_e.2), Nat.le_trans h_e.2 hb.size⟩, h_p.below hb, h_x.below hb h_x.lt, h_d.below hb, h_y.below hb h_y.lt⟩) ((S1_0D.out _).2 ⟨H_o.out.below (Below.refl V2.heap.size V2).drew H_o.out.lt, H_r.out.below (Below.refl V2.heap.size V2).drew, ⟨H_e.out.1.trans ((Below.refl V2.heap.size V2).drew.mono H_e.out.2), Nat.le_trans H_e.out.2 (Below.refl V2.heap.size V2).drew.size⟩, H_p.out.below (Below.refl V2.heap.size V2).drew, H_x.out.below (Below.refl V2.heap.size V2).drew H_x.out.lt, H_d.out.below (Below.refl V2.heap.size V2).drew, H_y.out.below (Below.refl V2.heap.size V2).drew H_y.out.lt⟩) ?_
  first
    | (refine Way.no 0 (by rfl) (by kernel_rfl) (by rfl) ?_; simp only [Act.put, List.setIfInBounds_toArray, List.set_cons_zero, List.set_cons_succ])
    | (refine' Way.yes 0 (by rfl) (by kernel_rfl) (by rfl) (fun wS hS => ?_) ?_
       rotate_left
       · obtain ⟨h_o, h_r, h_e, h_p, h_x, h_d, h_y⟩ := (S1_0D.out _).1 hS
         have cx := h_x.cell 0
         have cy := h_y.cell 0
         simp at cx cy
         go_simp
         first
           | exact ⟨rfl, Below.refl _ _⟩
       simp only [Act.put, List.setIfInBounds_toArray, List.set_cons_zero, List.set_cons_succ])
  first
    | (refine Way.no 1 (by rfl) (by kernel_rfl) (by rfl) ?_; simp only [Act.put, List.setIfInBounds_toArray, List.set_cons_zero, List.set_cons_succ])
    | (refine' Way.yes 1 (by rfl) (by kernel_rfl) (by rfl) (fun wS hS => ?_) ?_
       rotate_left
       · obtain ⟨h_o, h_r, h_e, h_p, h_x, h_d, h_y⟩ := (S1_0D.out _).1 hS
         have cx := h_x.cell 0
         have cy := h_y.cell 0
         simp at cx cy
         go_simp
         first
           | exact ⟨rfl, Below.refl _ _⟩
       simp only [Act.put, List.setIfInBounds_toArray, List.set_cons_zero, List.set_cons_succ])
  first
    | (refine Way.no 2 (by rfl) (by kernel_rfl) (by rfl) ?_; simp only [Act.put, List.setIfInBounds_toArray, List.set_cons_zero, List.set_cons_succ])
    | (refine' Way.yes 2 (by rfl) (by kernel_rfl) (by rfl) (fun wS hS => ?_) ?_
       rotate_left
       · obtain ⟨h_o, h_r, h_e, h_p, h_x, h_d, h_y⟩ := (S1_0D.out _).1 hS
         have cx := h_x.cell 0
         have cy := h_y.cell 0
         simp at cx cy
         go_simp
         first
           | exact ⟨rfl, Below.refl _ _⟩
       simp only [Act.put, List.setIfInBounds_toArray, List.set_cons_zero, List.set_cons_succ])
  first
    | (refine Way.no 3 (by rfl) (by kernel_rfl) (by rfl) ?_; simp only [Act.put, List.setIfInBounds_toArray, List.set_cons_zero, List.set_cons_succ])
    | (refine' Way.yes 3 (by rfl) (by kernel_rfl) (by rfl) (fun wS hS => ?_) ?_
       rotate_left
       · obtain ⟨h_o, h_r, h_e, h_p, h_x, h_d, h_y⟩ := (S1_0D.out _).1 hS
         have cx := h_x.cell 0
         have cy := h_y.cell 0
         simp at cx cy
         go_simp
         first
           | exact ⟨rfl, Below.refl _ _⟩
       simp only [Act.put, List.setIfInBounds_toArray, List.set_cons_zero, List.set_cons_succ])
  first
    | (refine Way.no 4 (by rfl) (by kernel_rfl) (by rfl) ?_; simp only [Act.put, List.setIfInBounds_toArray, List.set_cons_zero, List.set_cons_succ])
    | (refine' Way.yes 4 (by rfl) (by kernel_rfl) (by rfl) (fun wS hS => ?_) ?_
       rotate_left
       · obtain ⟨h_o, h_r, h_e, h_p, h_x, h_d, h_y⟩ := (S1_0D.out _).1 hS
         have cx := h_x.cell 0
         have cy := h_y.cell 0
         simp at cx cy
         go_simp
         first
           | exact ⟨rfl, Below.refl _ _⟩
       simp only [Act.put, List.setIfInBounds_toArray, List.set_cons_zero, List.set_cons_succ])
  refine' Way.yes (v := .int .i64 no) 5 (by rfl) (by kernel_rfl) (by rfl) (fun wS hS => ?_) ?_
  · obtain ⟨h_o, h_r, h_e, h_p, h_x, h_d, h_y⟩ := (S1_0D.out _).1 hS
    go_simp
    exact (HLS.out _).mono fun e w2 h => h
  simp only [Act.put, List.setIfInBounds_toArray, List.set_cons_zero, List.set_cons_succ]
  refine Way.move 6 (by rfl) (by kernel_rfl) (by rfl) (fun wA hS => ?_)
  obtain ⟨h_o, h_r, h_e, h_p, h_x, h_d, h_y⟩ := (S1_0D.out _).1 hS
  clear hS
  go_simp
  refine (HPUT.out X no A1 A2 n1 c1 n2 c2 er _ h_r h_p (fun _ => h_d)).mono ?_
  rintro e wN ⟨rfl, hz, _, hbe⟩
  refine ⟨_, rfl, ?_⟩
  obtain ⟨S1_1, S1_1D⟩ : ∃ S : World → Prop, Go.RowKit.Hid (∀ w' : World, S w' ↔ ((∃ h2 ys, xs.length ≤ ys.length ∧ ys.length ≤ xs.length + 1 ∧ Row base h2 w' rb ys) ∧ (Below base w w' ∧ base ≤ w'.heap.size))) := ⟨_, Lib.hid (fun _ => Iff.rfl)⟩
  refine Moved.turn S1_1 (fun W W' h hb => by obtain ⟨h_z, h_e⟩ := (S1_1D.out _).1 h; exact (S1_1D.out _).2 ⟨(by obtain ⟨h2, ys, h3, h4, h5⟩ := h_z; exact ⟨h2, ys, h3, h4, h5.below hb⟩), ⟨h_e.1.trans (hb.mono h_e.2), Nat.le_trans h_e.2 hb.size⟩⟩) (by kernel_rfl) ((S1_1D.out _).2 ⟨hz, ⟨h_e.1.trans hbe, by obtain ⟨_, _, _, _, h⟩ := hz; exact h.base_le⟩⟩) ?_
  clear h_o h_r h_e h_p h_x h_d h_y
  try simp only [Act.put, List.setIfInBounds_toArray, List.set_cons_zero, List.set_cons_succ]
  clear hz hbe
  first
    | (refine Way.no 7 (by rfl) (by kernel_rfl) (by rfl) ?_; simp only [Act.put, List.setIfInBounds_toArray, List.set_cons_zero, List.set_cons_succ])
    | (refine' Way.yes 7 (by rfl) (by kernel_rfl) (by rfl) (fun wS hS => ?_) ?_
       rotate_left
       · obtain ⟨h_z, h_e⟩ := (S1_1D.out _).1 hS
         go_simp
         first
           | exact ⟨rfl, Below.refl _ _⟩
       simp only [Act.put, List.setIfInBounds_toArray, List.set_cons_zero, List.set_cons_succ])
  refine Way.done (by kernel_rfl) (fun wE hS => ?_)
  obtain ⟨h_z, h_e⟩ := (S1_1D.out _).1 hS
  have H_z := Lib.hid h_z
  have H_e := Lib.hid h_e
  clear hS h_z h_e
  go_wp2_with fail
  go_ret
  obtain ⟨h2, ys, h3, h4, h5⟩ := H_z.out
  exact ⟨rfl, ⟨h2, ys, h3, by omega, h5⟩, H_e.out.1⟩
set_option maxRecDepth 4000000 in
set_option maxHeartbeats 4000000 in
theorem made2n (base hi rb : Nat) (xs : List Nat) (a b K : Int) (N M Y : Nat) (s : List UInt8) (w : World) (hrow : Row base hi w rb xs) (hN : N < W64) (hs : s.length ≤ 1000000000000000) (hM : M = 8192) (hlen : (xs.length + 1) * 24 ≤ 140737488355328) (i : Nat) (hw : wrongV s = some i) (hi2 : i ≤ 1000000000000000) :
    Calls Tryd.prog 5 #[.pointer (some ⟨rb, 0, none⟩), .agg #[.int .i64 2, .int .i64 a, .int .i64 b, wv N, .int .i64 K, .string ⟨s.toArray⟩]] w (StepP base rb xs w) := by
  have hbl := hrow.base_le
  obtain ⟨W0, hW0⟩ : ∃ W0, w.alloc (.cells #[.int .i64 2, .int .i64 a, .int .i64 b, wv N, .int .i64 K, .string ⟨s.toArray⟩] 37) = W0 := ⟨_, rfl⟩
  have hb0 : Below w.heap.size w W0 := by rw [← hW0]; exact below_new _ _
  have H_o := Lib.hid (show Blk W0 w.heap.size 37 #[.int .i64 2, .int .i64 a, .int .i64 b, wv N, .int .i64 K, .string ⟨s.toArray⟩] by rw [← hW0]; exact Blk.new _ _ _)
  have H_r := Lib.hid (hrow.below hb0)
  have H_e := Lib.hid (show Below base w W0 ∧ base ≤ W0.heap.size from ⟨hb0.mono hbl, Nat.le_trans hbl hb0.size⟩)
  have HPUT := Lib.hid (fun x no A B n c m d er W hr ha hk => put_any base hi rb xs x no A B n c m d er W hr ha hk hlen)
  have HPA := Lib.hid (fun W => parse_no s i W hs hw)
  have HWR := Lib.hid (fun W => (show Calls Tryd.prog 19 #[.string ⟨s.toArray⟩] W (fun e w' => e = .returned (.int .i64 (i : Int)) ∧ Below W.heap.size W w') from by have h := rtwrong_any s W hs; rwa [wrongI_some hw] at h))
  have HTX := Lib.hid (fun W => text_nat nilN 0 W (NatW.nil W) (by decide))
  rw [dtext_zero] at HTX
  have ta := fun w => ta_spot 10 (i : Int) w
  have t1 : decide ((0 : Int) ≤ (i : Int)) = true := decide_eq_true (by omega)
  have tii : ((i : Int) == (i : Int)) = true := by simp
  have hiI : (i : Int) ≤ 1000000000000000 := by omega
  clear hrow hb0 hlen hbl hN hw
  go_enter Tryd.func5, Tryd.ntmps5
  go_upto_region 1 with fail
  clear hW0
  have c0 := H_o.out.cell 0
  simp only [List.getElem?_toArray, List.getElem?_cons_zero, List.getElem?_cons_succ] at c0
  have c5 := H_o.out.cell 5
  simp only [List.getElem?_toArray, List.getElem?_cons_zero, List.getElem?_cons_succ] at c5
  go_wp2_with fail
  refine (HPA.out _).mono ?_
  rintro e w1 ⟨rfl, hb⟩
  clear c0 c5
  have K_o := Lib.hid (show Blk w1 w.heap.size 37 #[.int .i64 2, .int .i64 a, .int .i64 b, wv N, .int .i64 K, .string ⟨s.toArray⟩] from H_o.out.below hb H_o.out.lt)
  have K_r := Lib.hid (show Row base hi w1 rb xs from H_r.out.below hb)
  have K_e := Lib.hid (show Below base w w1 ∧ base ≤ w1.heap.size from ⟨H_e.out.1.trans (hb.mono H_e.out.2), Nat.le_trans H_e.out.2 hb.size⟩)
  clear hb H_o H_r H_e
  go_upto_region 11 with fail
  obtain ⟨V1, hV1⟩ : ∃ V, (w1.alloc (.cells #[.slice none 0 0] 26)) = V := ⟨_, rfl⟩
  have hbn : Below w1.heap.size w1 V1 := by rw [← hV1]; go_grown
  have H_o := Lib.hid (show Blk V1 w.heap.size 37 #[.int .i64 2, .int .i64 a, .int .i64 b, wv N, .int .i64 K, .string ⟨s.toArray⟩] from K_o.out.below hbn K_o.out.lt)
  have H_r := Lib.hid (show Row base hi V1 rb xs from K_r.out.below hbn)
  have H_e := Lib.hid (show Below base w V1 ∧ base ≤ V1.heap.size from ⟨K_e.out.1.trans (hbn.mono K_e.out.2), Nat.le_trans K_e.out.2 hbn.size⟩)
  have B_x := Lib.hid (show Blk V1 w1.heap.size 26 #[.slice none 0 0] from by rw [← hV1]; exact Blk.new w1 26 #[.slice none 0 0])
  obtain ⟨g1, hg1⟩ : ∃ g, w1.heap.size = g := ⟨_, rfl⟩
  simp only [hV1, hg1] at B_x ⊢
  have H_x := B_x
  clear hV1 hg1 hbn K_o K_r K_e B_x
  have c5 := H_o.out.cell 5
  simp only [List.getElem?_toArray, List.getElem?_cons_zero, List.getElem?_cons_succ] at c5
  go_wp2_with fail
  refine (HWR.out _).mono ?_
  rintro e w2 ⟨rfl, hb⟩
  clear c5
  have K_o := Lib.hid (show Blk w2 w.heap.size 37 #[.int .i64 2, .int .i64 a, .int .i64 b, wv N, .int .i64 K, .string ⟨s.toArray⟩] from H_o.out.below hb H_o.out.lt)
  have K_r := Lib.hid (show Row base hi w2 rb xs from H_r.out.below hb)
  have K_e := Lib.hid (show Below base w w2 ∧ base ≤ w2.heap.size from ⟨H_e.out.1.trans (hb.mono H_e.out.2), Nat.le_trans H_e.out.2 hb.size⟩)
  have K_x := Lib.hid (show Blk w2 g1 26 #[.slice none 0 0] from H_x.out.below hb H_x.out.lt)
  clear hb H_o H_r H_e H_x
  go_upto_region 14 with fail
  obtain ⟨V2, hV2⟩ : ∃ V, (w2.alloc (.cells #[.int .i64 10, .int .i64 (i : Int)] 60)) = V := ⟨_, rfl⟩
  have hbn : Below w2.heap.size w2 V2 := by rw [← hV2]; go_grown
  have H_o := Lib.hid (show Blk V2 w.heap.size 37 #[.int .i64 2, .int .i64 a, .int .i64 b, wv N, .int .i64 K, .string ⟨s.toArray⟩] from K_o.out.below hbn K_o.out.lt)
  have H_r := Lib.hid (show Row base hi V2 rb xs from K_r.out.below hbn)
  have H_e := Lib.hid (show Below base w V2 ∧ base ≤ V2.heap.size from ⟨K_e.out.1.trans (hbn.mono K_e.out.2), Nat.le_trans K_e.out.2 hbn.size⟩)
  have H_x := Lib.hid (show Blk V2 g1 26 #[.slice none 0 0] from K_x.out.below hbn K_x.out.lt)
  have B_q := Lib.hid (show Blk V2 w2.heap.size 60 #[.int .i64 10, .int .i64 (i : Int)] from by rw [← hV2]; exact Blk.new w2 60 #[.int .i64 10, .int .i64 (i : Int)])
  obtain ⟨g2, hg2⟩ : ∃ g, w2.heap.size = g := ⟨_, rfl⟩
  simp only [hV2, hg2] at B_q ⊢
  have H_q := B_q
  clear hV2 hg2 hbn K_o K_r K_e K_x B_q
  have cx := H_x.out.cell 0
  simp only [List.getElem?_toArray, List.getElem?_cons_zero, List.getElem?_cons_succ] at cx
  have cq := H_q.out.cell 0
  simp only [List.getElem?_toArray, List.getElem?_cons_zero, List.getElem?_cons_succ] at cq
  have cr := H_q.out.cell 1
  simp only [List.getElem?_toArray, List.getElem?_cons_zero, List.getElem?_cons_succ] at cr
  go_wp2_with fail
  refine (HTX.out _).mono ?_
  rintro e w3 ⟨rfl, hb⟩
  clear cx cq cr
  have K_o := Lib.hid (show Blk w3 w.heap.size 37 #[.int .i64 2, .int .i64 a, .int .i64 b, wv N, .int .i64 K, .string ⟨s.toArray⟩] from H_o.out.below hb H_o.out.lt)
  have K_r := Lib.hid (show Row base hi w3 rb xs from H_r.out.below hb)
  have K_e := Lib.hid (show Below base w w3 ∧ base ≤ w3.heap.size from ⟨H_e.out.1.trans (hb.mono H_e.out.2), Nat.le_trans H_e.out.2 hb.size⟩)
  have K_x := Lib.hid (show Blk w3 g1 26 #[.slice none 0 0] from H_x.out.below hb H_x.out.lt)
  have K_q := Lib.hid (show Blk w3 g2 60 #[.int .i64 10, .int .i64 (i : Int)] from H_q.out.below hb H_q.out.lt)
  clear hb H_o H_r H_e H_x H_q
  have H_o := K_o
  have H_r := K_r
  have H_e := K_e
  have H_x := K_x
  have H_q := K_q
  clear K_o K_r K_e K_x K_q
  go_wp2_with fail
  go_ret
  exact ⟨rfl, ⟨_, xs, Nat.le_refl _, by omega, H_r.out⟩, H_e.out.1⟩
set_option maxRecDepth 4000000 in
set_option maxHeartbeats 4000000 in
theorem made2p (base hi rb : Nat) (xs : List Nat) (a b K : Int) (N M Y : Nat) (s : List UInt8) (w : World) (hrow : Row base hi w rb xs) (hN : N < W64) (hs : s.length ≤ 1000000000000000) (hM : M = 8192) (hlen : (xs.length + 1) * 24 ≤ 140737488355328) (hw : wrongV s = none) :
    Calls Tryd.prog 5 #[.pointer (some ⟨rb, 0, none⟩), .agg #[.int .i64 2, .int .i64 a, .int .i64 b, wv N, .int .i64 K, .string ⟨s.toArray⟩]] w (StepP base rb xs w) := by
  have hbl := hrow.base_le
  obtain ⟨W0, hW0⟩ : ∃ W0, w.alloc (.cells #[.int .i64 2, .int .i64 a, .int .i64 b, wv N, .int .i64 K, .string ⟨s.toArray⟩] 37) = W0 := ⟨_, rfl⟩
  have hb0 : Below w.heap.size w W0 := by rw [← hW0]; exact below_new _ _
  have H_o := Lib.hid (show Blk W0 w.heap.size 37 #[.int .i64 2, .int .i64 a, .int .i64 b, wv N, .int .i64 K, .string ⟨s.toArray⟩] by rw [← hW0]; exact Blk.new _ _ _)
  have H_r := Lib.hid (hrow.below hb0)
  have H_e := Lib.hid (show Below base w W0 ∧ base ≤ W0.heap.size from ⟨hb0.mono hbl, Nat.le_trans hbl hb0.size⟩)
  have HPUT := Lib.hid (fun x no A B n c m d er W hr ha hk => put_any base hi rb xs x no A B n c m d er W hr ha hk hlen)
  have hne : s ≠ [] := by rintro rfl; exact absurd hw (by decide)
  have hdg : ∀ c ∈ s, isD c = true := by
    unfold wrongV at hw
    rw [if_neg hne] at hw
    exact wrongAt_none.1 hw
  have HPA := Lib.hid (fun W => (parse_ok s W hs hne hdg).mono fun e w' h => NatB.ans h hM)
  have HWR := Lib.hid (fun W => (show Calls Tryd.prog 19 #[.string ⟨s.toArray⟩] W (fun e w' => e = .returned (.int .i64 (-1)) ∧ Below W.heap.size W w') from by have h := rtwrong_any s W hs; rwa [wrongI_none hw] at h))
  have HRP := Lib.hid (fun W => rparse_nat s M W hs hdg hM)
  have HLS := Lib.hid (fun W => less_any (!overB (dval s) M) 11 W)
  have HNO : Hid (lessV (!overB (dval s) M) 11 = 0 → overB (dval s) M = false) := Lib.hid (fun h => by
    cases h2 : overB (dval s) M with
    | false => rfl
    | true => rw [h2] at h; exact absurd h (by decide))
  obtain ⟨no, hno⟩ : ∃ no, lessV (!overB (dval s) M) 11 = no := ⟨_, rfl⟩
  rw [hno] at HPA HLS HNO
  obtain ⟨G, hG⟩ : ∃ G, overB (dval s) M = G := ⟨_, rfl⟩
  unfold RParG at HRP
  rw [hG] at HLS HRP HNO
  obtain ⟨X, hX⟩ : ∃ X, dval s = X := ⟨_, rfl⟩
  rw [hX] at HPA HRP
  clear hrow hb0 hlen hbl hN hw hne hdg hno hG hX
  go_enter Tryd.func5, Tryd.ntmps5
  go_upto_region 1 with fail
  clear hW0
  have c0 := H_o.out.cell 0
  simp only [List.getElem?_toArray, List.getElem?_cons_zero, List.getElem?_cons_succ] at c0
  have c5 := H_o.out.cell 5
  simp only [List.getElem?_toArray, List.getElem?_cons_zero, List.getElem?_cons_succ] at c5
  go_wp2_with fail
  refine (HPA.out _).mono ?_
  rintro e w1 ⟨A1, n1, c1, er, rfl, ha, hb⟩
  clear c0 c5
  have K_o := Lib.hid (show Blk w1 w.heap.size 37 #[.int .i64 2, .int .i64 a, .int .i64 b, wv N, .int .i64 K, .string ⟨s.toArray⟩] from H_o.out.below hb H_o.out.lt)
  have K_r := Lib.hid (show Row base hi w1 rb xs from H_r.out.below hb)
  have K_e := Lib.hid (show Below base w w1 ∧ base ≤ w1.heap.size from ⟨H_e.out.1.trans (hb.mono H_e.out.2), Nat.le_trans H_e.out.2 hb.size⟩)
  have K_p := Lib.hid (show Ans X no w1 A1 n1 c1 er from ha)
  clear hb H_o H_r H_e
  clear ha
  go_upto_region 11 with fail
  obtain ⟨V1, hV1⟩ : ∃ V, (w1.alloc (.cells #[.slice A1 n1 c1] 26)) = V := ⟨_, rfl⟩
  have hbn : Below w1.heap.size w1 V1 := by rw [← hV1]; go_grown
  have H_o := Lib.hid (show Blk V1 w.heap.size 37 #[.int .i64 2, .int .i64 a, .int .i64 b, wv N, .int .i64 K, .string ⟨s.toArray⟩] from K_o.out.below hbn K_o.out.lt)
  have H_r := Lib.hid (show Row base hi V1 rb xs from K_r.out.below hbn)
  have H_e := Lib.hid (show Below base w V1 ∧ base ≤ V1.heap.size from ⟨K_e.out.1.trans (hbn.mono K_e.out.2), Nat.le_trans K_e.out.2 hbn.size⟩)
  have H_p := Lib.hid (show Ans X no V1 A1 n1 c1 er from K_p.out.below hbn)
  have B_x := Lib.hid (show Blk V1 w1.heap.size 26 #[.slice A1 n1 c1] from by rw [← hV1]; exact Blk.new w1 26 #[.slice A1 n1 c1])
  obtain ⟨g1, hg1⟩ : ∃ g, w1.heap.size = g := ⟨_, rfl⟩
  simp only [hV1, hg1] at B_x ⊢
  have H_x := B_x
  clear hV1 hg1 hbn K_o K_r K_e K_p B_x
  have c5 := H_o.out.cell 5
  simp only [List.getElem?_toArray, List.getElem?_cons_zero, List.getElem?_cons_succ] at c5
  go_wp2_with fail
  refine (HWR.out _).mono ?_
  rintro e w2 ⟨rfl, hb⟩
  clear c5
  have K_o := Lib.hid (show Blk w2 w.heap.size 37 #[.int .i64 2, .int .i64 a, .int .i64 b, wv N, .int .i64 K, .string ⟨s.toArray⟩] from H_o.out.below hb H_o.out.lt)
  have K_r := Lib.hid (show Row base hi w2 rb xs from H_r.out.below hb)
  have K_e := Lib.hid (show Below base w w2 ∧ base ≤ w2.heap.size from ⟨H_e.out.1.trans (hb.mono H_e.out.2), Nat.le_trans H_e.out.2 hb.size⟩)
  have K_p := Lib.hid (show Ans X no w2 A1 n1 c1 er from H_p.out.below hb)
  have K_x := Lib.hid (show Blk w2 g1 26 #[.slice A1 n1 c1] from H_x.out.below hb H_x.out.lt)
  clear hb H_o H_r H_e H_p H_x
  have H_o := K_o
  have H_r := K_r
  have H_e := K_e
  have H_p := K_p
  have H_x := K_x
  clear K_o K_r K_e K_p K_x
  have c5 := H_o.out.cell 5
  simp only [List.getElem?_toArray, List.getElem?_cons_zero, List.getElem?_cons_succ] at c5
  go_wp2_with fail
  refine (HRP.out _).mono ?_
  rintro e w3 ⟨A2, n2, c2, rfl, hl, hb⟩
  clear c5
  have K_o := Lib.hid (show Blk w3 w.heap.size 37 #[.int .i64 2, .int .i64 a, .int .i64 b, wv N, .int .i64 K, .string ⟨s.toArray⟩] from H_o.out.below hb H_o.out.lt)
  have K_r := Lib.hid (show Row base hi w3 rb xs from H_r.out.below hb)
  have K_e := Lib.hid (show Below base w w3 ∧ base ≤ w3.heap.size from ⟨H_e.out.1.trans (hb.mono H_e.out.2), Nat.le_trans H_e.out.2 hb.size⟩)
  have K_p := Lib.hid (show Ans X no w3 A1 n1 c1 er from H_p.out.below hb)
  have K_x := Lib.hid (show Blk w3 g1 26 #[.slice A1 n1 c1] from H_x.out.below hb H_x.out.lt)
  have K_d := Lib.hid (show G = false → RatL w3 A2 n2 c2 X from hl)
  clear hb H_o H_r H_e H_p H_x
  clear hl
  go_upto_region 16 with fail
  obtain ⟨V3, hV3⟩ : ∃ V, (w3.alloc (.cells #[.slice A2 n2 c2] 31)) = V := ⟨_, rfl⟩
  have hbn : Below w3.heap.size w3 V3 := by rw [← hV3]; go_grown
  have H_o := Lib.hid (show Blk V3 w.heap.size 37 #[.int .i64 2, .int .i64 a, .int .i64 b, wv N, .int .i64 K, .string ⟨s.toArray⟩] from K_o.out.below hbn K_o.out.lt)
  have H_r := Lib.hid (show Row base hi V3 rb xs from K_r.out.below hbn)
  have H_e := Lib.hid (show Below base w V3 ∧ base ≤ V3.heap.size from ⟨K_e.out.1.trans (hbn.mono K_e.out.2), Nat.le_trans K_e.out.2 hbn.size⟩)
  have H_p := Lib.hid (show Ans X no V3 A1 n1 c1 er from K_p.out.below hbn)
  have H_x := Lib.hid (show Blk V3 g1 26 #[.slice A1 n1 c1] from K_x.out.below hbn K_x.out.lt)
  have H_d := Lib.hid (show G = false → RatL V3 A2 n2 c2 X from (fun h => (K_d.out h).below hbn))
  have B_y := Lib.hid (show Blk V3 w3.heap.size 31 #[.slice A2 n2 c2] from by rw [← hV3]; exact Blk.new w3 31 #[.slice A2 n2 c2])
  obtain ⟨g3, hg3⟩ : ∃ g, w3.heap.size = g := ⟨_, rfl⟩
  simp only [hV3, hg3] at B_y ⊢
  have H_y := B_y
  clear hV3 hg3 hbn K_o K_r K_e K_p K_x K_d B_y
  obtain ⟨S2_0, S2_0D⟩ : ∃ S : World → Prop, Go.RowKit.Hid (∀ w' : World, S w' ↔ ((Blk w' w.heap.size 37 #[.int .i64 2, .int .i64 a, .int .i64 b, wv N, .int .i64 K, .string ⟨s.toArray⟩]) ∧ (Row base hi w' rb xs) ∧ (Below base w w' ∧ base ≤ w'.heap.size) ∧ (Ans X no w' A1 n1 c1 er) ∧ (Blk w' g1 26 #[.slice A1 n1 c1]) ∧ (G = false → RatL w' A2 n2 c2 X) ∧ (Blk w' g3 31 #[.slice A2 n2 c2]))) := ⟨_, Lib.hid (fun _ => Iff.rfl)⟩
  refine wp_region_way (S := S2_0) (by kernel_rfl) (by kernel_rfl) (fun W W' h hb => by obtain ⟨h_o, h_r, h_e, h_p, h_x, h_d, h_y⟩ := (S2_0D.out _).1 h; exact (S2_0D.out _).2 ⟨h_o.below hb h_o.lt, h_r.below hb, ⟨h_e.1.trans (hb.mono h_e.2), Nat.le_trans h_e.2 hb.size⟩, h_p.below hb, h_x.below hb h_x.lt, (fun h => (h_d h).below hb), h_y.below hb h_y.lt⟩) ((S2_0D.out _).2 ⟨H_o.out.below (Below.refl V3.heap.size V3).drew H_o.out.lt, H_r.out.below (Below.refl V3.heap.size V3).drew, ⟨H_e.out.1.trans ((Below.refl V3.heap.size V3).drew.mono H_e.out.2), Nat.le_trans H_e.out.2 (Below.refl V3.heap.size V3).drew.size⟩, H_p.out.below (Below.refl V3.heap.size V3).drew, H_x.out.below (Below.refl V3.heap.size V3).drew H_x.out.lt, (fun h => (H_d.out h).below (Below.refl V3.heap.size V3).drew), H_y.out.below (Below.refl V3.heap.size V3).drew H_y.out.lt⟩) ?_
  first
    | (refine Way.no 0 (by rfl) (by kernel_rfl) (by rfl) ?_; simp only [Act.put, List.setIfInBounds_toArray, List.set_cons_zero, List.set_cons_succ])
    | (refine' Way.yes 0 (by rfl) (by kernel_rfl) (by rfl) (fun wS hS => ?_) ?_
       rotate_left
       · obtain ⟨h_o, h_r, h_e, h_p, h_x, h_d, h_y⟩ := (S2_0D.out _).1 hS
         have cx := h_x.cell 0
         have cy := h_y.cell 0
         simp at cx cy
         go_simp
         first
           | exact ⟨rfl, Below.refl _ _⟩
       simp only [Act.put, List.setIfInBounds_toArray, List.set_cons_zero, List.set_cons_succ])
  first
    | (refine Way.no 1 (by rfl) (by kernel_rfl) (by rfl) ?_; simp only [Act.put, List.setIfInBounds_toArray, List.set_cons_zero, List.set_cons_succ])
    | (refine' Way.yes 1 (by rfl) (by kernel_rfl) (by rfl) (fun wS hS => ?_) ?_
       rotate_left
       · obtain ⟨h_o, h_r, h_e, h_p, h_x, h_d, h_y⟩ := (S2_0D.out _).1 hS
         have cx := h_x.cell 0
         have cy := h_y.cell 0
         simp at cx cy
         go_simp
         first
           | exact ⟨rfl, Below.refl _ _⟩
       simp only [Act.put, List.setIfInBounds_toArray, List.set_cons_zero, List.set_cons_succ])
  first
    | (refine Way.no 2 (by rfl) (by kernel_rfl) (by rfl) ?_; simp only [Act.put, List.setIfInBounds_toArray, List.set_cons_zero, List.set_cons_succ])
    | (refine' Way.yes 2 (by rfl) (by kernel_rfl) (by rfl) (fun wS hS => ?_) ?_
       rotate_left
       · obtain ⟨h_o, h_r, h_e, h_p, h_x, h_d, h_y⟩ := (S2_0D.out _).1 hS
         have cx := h_x.cell 0
         have cy := h_y.cell 0
         simp at cx cy
         go_simp
         first
           | exact ⟨rfl, Below.refl _ _⟩
       simp only [Act.put, List.setIfInBounds_toArray, List.set_cons_zero, List.set_cons_succ])
  first
    | (refine Way.no 3 (by rfl) (by kernel_rfl) (by rfl) ?_; simp only [Act.put, List.setIfInBounds_toArray, List.set_cons_zero, List.set_cons_succ])
    | (refine' Way.yes 3 (by rfl) (by kernel_rfl) (by rfl) (fun wS hS => ?_) ?_
       rotate_left
       · obtain ⟨h_o, h_r, h_e, h_p, h_x, h_d, h_y⟩ := (S2_0D.out _).1 hS
         have cx := h_x.cell 0
         have cy := h_y.cell 0
         simp at cx cy
         go_simp
         first
           | exact ⟨rfl, Below.refl _ _⟩
       simp only [Act.put, List.setIfInBounds_toArray, List.set_cons_zero, List.set_cons_succ])
  first
    | (refine Way.no 4 (by rfl) (by kernel_rfl) (by rfl) ?_; simp only [Act.put, List.setIfInBounds_toArray, List.set_cons_zero, List.set_cons_succ])
    | (refine' Way.yes 4 (by rfl) (by kernel_rfl) (by rfl) (fun wS hS => ?_) ?_
       rotate_left
       · obtain ⟨h_o, h_r, h_e, h_p, h_x, h_d, h_y⟩ := (S2_0D.out _).1 hS
         have cx := h_x.cell 0
         have cy := h_y.cell 0
         simp at cx cy
         go_simp
         first
           | exact ⟨rfl, Below.refl _ _⟩
       simp only [Act.put, List.setIfInBounds_toArray, List.set_cons_zero, List.set_cons_succ])
  refine' Way.yes (v := .int .i64 no) 5 (by rfl) (by kernel_rfl) (by rfl) (fun wS hS => ?_) ?_
  · obtain ⟨h_o, h_r, h_e, h_p, h_x, h_d, h_y⟩ := (S2_0D.out _).1 hS
    go_simp
    exact (HLS.out _).mono fun e w2 h => h
  simp only [Act.put, List.setIfInBounds_toArray, List.set_cons_zero, List.set_cons_succ]
  refine Way.move 6 (by rfl) (by kernel_rfl) (by rfl) (fun wA hS => ?_)
  obtain ⟨h_o, h_r, h_e, h_p, h_x, h_d, h_y⟩ := (S2_0D.out _).1 hS
  clear hS
  go_simp
  refine (HPUT.out X no A1 A2 n1 c1 n2 c2 er _ h_r h_p (fun h => h_d (HNO.out h))).mono ?_
  rintro e wN ⟨rfl, hz, _, hbe⟩
  refine ⟨_, rfl, ?_⟩
  obtain ⟨S2_1, S2_1D⟩ : ∃ S : World → Prop, Go.RowKit.Hid (∀ w' : World, S w' ↔ ((∃ h2 ys, xs.length ≤ ys.length ∧ ys.length ≤ xs.length + 1 ∧ Row base h2 w' rb ys) ∧ (Below base w w' ∧ base ≤ w'.heap.size))) := ⟨_, Lib.hid (fun _ => Iff.rfl)⟩
  refine Moved.turn S2_1 (fun W W' h hb => by obtain ⟨h_z, h_e⟩ := (S2_1D.out _).1 h; exact (S2_1D.out _).2 ⟨(by obtain ⟨h2, ys, h3, h4, h5⟩ := h_z; exact ⟨h2, ys, h3, h4, h5.below hb⟩), ⟨h_e.1.trans (hb.mono h_e.2), Nat.le_trans h_e.2 hb.size⟩⟩) (by kernel_rfl) ((S2_1D.out _).2 ⟨hz, ⟨h_e.1.trans hbe, by obtain ⟨_, _, _, _, h⟩ := hz; exact h.base_le⟩⟩) ?_
  clear h_o h_r h_e h_p h_x h_d h_y
  try simp only [Act.put, List.setIfInBounds_toArray, List.set_cons_zero, List.set_cons_succ]
  clear hz hbe
  first
    | (refine Way.no 7 (by rfl) (by kernel_rfl) (by rfl) ?_; simp only [Act.put, List.setIfInBounds_toArray, List.set_cons_zero, List.set_cons_succ])
    | (refine' Way.yes 7 (by rfl) (by kernel_rfl) (by rfl) (fun wS hS => ?_) ?_
       rotate_left
       · obtain ⟨h_z, h_e⟩ := (S2_1D.out _).1 hS
         go_simp
         first
           | exact ⟨rfl, Below.refl _ _⟩
       simp only [Act.put, List.setIfInBounds_toArray, List.set_cons_zero, List.set_cons_succ])
  refine Way.done (by kernel_rfl) (fun wE hS => ?_)
  obtain ⟨h_z, h_e⟩ := (S2_1D.out _).1 hS
  have H_z := Lib.hid h_z
  have H_e := Lib.hid h_e
  clear hS h_z h_e
  go_wp2_with fail
  go_ret
  obtain ⟨h2, ys, h3, h4, h5⟩ := H_z.out
  exact ⟨rfl, ⟨h2, ys, h3, by omega, h5⟩, H_e.out.1⟩
end Go.Proofs.YtgihkmofpncobaaDoor
