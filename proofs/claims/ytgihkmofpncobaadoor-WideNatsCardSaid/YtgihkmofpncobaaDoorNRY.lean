/- The law's reckoned: the steps that make a number of others. -/
import Derived.Test.YtgihkmofpncobaaDoorNRX
namespace Go.Proofs.YtgihkmofpncobaaDoor
open Go.RowKit
set_option linter.unusedSimpArgs false
set_option linter.unusedVariables false

attribute [local go_sem] SGives_value SGives_skip SGives_enter CGives_value CGives_skip CGives_enter MGives_value MGives_skip MGives_enter
theorem wf_le {K : Int} (h : (Lit.int .i64 K).wf = true) : K ≤ 9223372036854775807 := by
  simp [Lit.wf] at h
  exact h.2
theorem two_b4 {x y M m Y : Nat} (hx : blen x ≤ M) (hy : blen y ≤ M) (hM : M = 8192) (hm : m = 4096) (hY : Y = 10000) : x < B4 ^ Y ∧ y < B4 ^ Y ∧ x + y < B4 ^ Y ∧ x * y < B4 ^ Y := by
  have h1 := blen_b4 hx hM hm
  have h2 := blen_b4 hy hM hm
  have h3 : B4 ^ m ≤ B4 ^ Y := Nat.pow_le_pow_right (by decide) (by omega)
  have h4 : x * y < B4 ^ m * B4 ^ m := Nat.mul_lt_mul'' h1 h2
  rw [← Nat.pow_add] at h4
  have h5 : B4 ^ (m + 1) ≤ B4 ^ Y := Nat.pow_le_pow_right (by decide) (by omega)
  have h6 : B4 ^ m + B4 ^ m ≤ B4 ^ (m + 1) := by
    rw [Nat.pow_succ, b4_val]
    have : B4 ^ m * 2 ≤ B4 ^ m * 10000 := Nat.mul_le_mul_left _ (by decide)
    rw [b4_val] at this
    omega
  exact ⟨Nat.lt_of_lt_of_le h1 h3, Nat.lt_of_lt_of_le h2 h3, by omega, Nat.lt_of_lt_of_le h4 (Nat.pow_le_pow_right (by decide) (by omega))⟩
theorem cmpI_neg (x y : Nat) : decide (cmpI x y < 0) = decide (x < y) := by
  unfold cmpI
  rw [decide_eq_decide]
  by_cases h : x = y
  · rw [if_pos h]; omega
  · rw [if_neg h]
    by_cases h2 : x < y
    · rw [if_pos h2]; omega
    · rw [if_neg h2]; omega
theorem NatS.ansF {x y : Nat} {w w' : World} {e : Ending} (h : NatS x y w e w') (hx : x < y) : NatF 12 w e w' := by
  unfold NatS at h
  rwa [if_pos hx] at h
theorem NatS.ansE {x y : Nat} {w w' : World} {e : Ending} (h : NatS x y w e w') (hx : y ≤ x) (hb : blen x ≤ 8192) : AnsE (x - y) 0 w e w' := by
  obtain ⟨A, n, c, h1, h2, h3⟩ := h.yes hx
  exact ⟨A, n, c, _, h1, .inl ⟨rfl, rfl, h2, Nat.le_trans (blen_mono (Nat.sub_le _ _)) hb⟩, h3⟩
set_option maxRecDepth 4000000 in
set_option maxHeartbeats 40000000 in
theorem reckoned_core (base hi rb : Nat) (xs : List Nat) (kind a b K : Int) (N M Y Z m4 : Nat) (s : List UInt8) (w : World) (hkind : kind = 3 ∨ kind = 4 ∨ kind = 5 ∨ kind = 6 ∨ kind = 7 ∨ kind = 8 ∨ kind = 9) (hrow : Row base hi w rb xs) (hpos : 0 < xs.length) (wa : (Lit.int .i64 a).wf = true) (wb : (Lit.int .i64 b).wf = true) (wK : (Lit.int .i64 K).wf = true) (hN : N < W64) (hM : M = 8192) (hm4 : m4 = 4096) (hY : Y = 10000) (hZ : Z = 1000000) (hlen : (xs.length + 2) * 24 ≤ 140737488355328) :
    Calls Tryd.prog 6 #[.pointer (some ⟨rb, 0, none⟩), .agg #[.int .i64 kind, .int .i64 a, .int .i64 b, wv N, .int .i64 K, .string ⟨s.toArray⟩]] w (StepP base rb xs w) := by
  have HBL := Lib.hid hrow.base_le
  have HPUT := Lib.hid (fun x no A B n c m d er W (hr : Row base hi W rb xs) ha hk => put_any base hi rb xs x no A B n c m d er W hr ha hk (by omega))
  have HPUT2 := Lib.hid (fun h2 ys x no A B n c m d er W (hys : ys.length ≤ xs.length + 1) (hr : Row base h2 W rb ys) ha hk => put_any base h2 rb ys x no A B n c m d er W hr ha hk (by omega))
  obtain ⟨gp, cp, gd, cd, P, D, hR⟩ := hrow
  have HHI := Lib.hid hR.le
  have hn15 : xs.length ≤ 1000000000000000 := by omega
  have hPA := fun W => place_any xs.length a W hpos hn15 wa
  have hPB := fun W => place_any xs.length b W hpos hn15 wb
  have hp1 := placeI_lt hpos a
  have hp2 := placeI_lt hpos b
  obtain ⟨p1, hpp1⟩ : ∃ p, placeI xs.length a = p := ⟨_, rfl⟩
  obtain ⟨p2, hpp2⟩ : ∃ p, placeI xs.length b = p := ⟨_, rfl⟩
  rw [hpp1] at hPA hp1
  rw [hpp2] at hPB hp2
  have HPA := Lib.hid hPA
  have HPB := Lib.hid hPB
  have hgp : gp < w.heap.size := Nat.lt_of_lt_of_le hR.hgp hR.le
  have hgd : gd < w.heap.size := Nat.lt_of_lt_of_le hR.hgd hR.le
  have hsx := hR.small _ (List.getElem_mem hp1)
  have hsy := hR.small _ (List.getElem_mem hp2)
  obtain ⟨A1, n1, c1, hc1, hn1⟩ := hR.atP p1 hp1
  obtain ⟨A2, n2, c2, hc2, hn2⟩ := hR.atP p2 hp2
  obtain ⟨B1, m1, d1, hd1, hr1⟩ := hR.atD p1 hp1
  obtain ⟨B2, m2, d2, hd2, hr2⟩ := hR.atD p2 hp2
  obtain ⟨x, hx⟩ : ∃ x, xs[p1] = x := ⟨_, rfl⟩
  obtain ⟨y, hy⟩ : ∃ y, xs[p2] = y := ⟨_, rfl⟩
  rw [hx] at hsx hn1 hr1
  rw [hy] at hsy hn2 hr2
  have HC1 : Hid (∀ W, Below w.heap.size w W → W.cell? ⟨gp, p1, none⟩ = some (.slice A1 n1 c1)) := Lib.hid (fun W hb => keepc hb hgp hc1)
  have HC2 : Hid (∀ W, Below w.heap.size w W → W.cell? ⟨gp, p2, none⟩ = some (.slice A2 n2 c2)) := Lib.hid (fun W hb => keepc hb hgp hc2)
  have HD1 : Hid (∀ W, Below w.heap.size w W → W.cell? ⟨gd, p1, none⟩ = some (.slice B1 m1 d1)) := Lib.hid (fun W hb => keepc hb hgd hd1)
  have HD2 : Hid (∀ W, Below w.heap.size w W → W.cell? ⟨gd, p2, none⟩ = some (.slice B2 m2 d2)) := Lib.hid (fun W hb => keepc hb hgd hd2)
  have HN1 : Hid (∀ W, Below w.heap.size w W → NatW W (.agg #[.slice A1 n1 c1]) x) := Lib.hid (fun W hb => (hn1.below hb).w)
  have HN2 : Hid (∀ W, Below w.heap.size w W → NatW W (.agg #[.slice A2 n2 c2]) y) := Lib.hid (fun W hb => (hn2.below hb).w)
  have HR1 : Hid (∀ W, Below w.heap.size w W → RatW W (.agg #[.slice B1 m1 d1]) x) := Lib.hid (fun W hb => (hr1.below hb).w)
  have HR2 : Hid (∀ W, Below w.heap.size w W → RatW W (.agg #[.slice B2 m2 d2]) y) := Lib.hid (fun W hb => (hr2.below hb).w)
  have HZ2 := Lib.hid hr2.zero
  have HX : Hid (blen x ≤ M) := Lib.hid (by rw [hM]; exact hsx)
  have HYY : Hid (blen y ≤ M) := Lib.hid (by rw [hM]; exact hsy)
  have q1 : (p1 : Int) < (xs.length : Int) := by omega
  have q2 : (p2 : Int) < (xs.length : Int) := by omega
  have HNN := Lib.hid hN
  have HMM := Lib.hid hM
  have HM4 := Lib.hid hm4
  have HY := Lib.hid hY
  have HZ := Lib.hid hZ
  have HWK := Lib.hid wK
  obtain ⟨W0, hW0⟩ : ∃ W0, w.alloc (.cells #[.int .i64 kind, .int .i64 a, .int .i64 b, wv N, .int .i64 K, .string ⟨s.toArray⟩] 37) = W0 := ⟨_, rfl⟩
  have hb0 : Below w.heap.size w W0 := by rw [← hW0]; exact below_new _ _
  have H_o := Lib.hid (show Blk W0 w.heap.size 37 #[.int .i64 kind, .int .i64 a, .int .i64 b, wv N, .int .i64 K, .string ⟨s.toArray⟩] by rw [← hW0]; exact Blk.new _ _ _)
  have H_r := Lib.hid (hR.below hb0)
  have H_u := Lib.hid hb0
  clear hR hpos hn15 wa wb wK hPA hPB hp1 hp2 hpp1 hpp2 hgp hgd hsx hsy hc1 hc2 hd1 hd2 hn1 hn2 hr1 hr2 hx hy hN hM hm4 hY hZ hb0 hlen
  go_enter Tryd.func6, Tryd.ntmps6
  go_upto_region 1 with fail
  clear hW0
  obtain ⟨S0_0, S0_0D⟩ : ∃ S : World → Prop, Go.RowKit.Hid (∀ w' : World, S w' ↔ ((Blk w' w.heap.size 37 #[.int .i64 kind, .int .i64 a, .int .i64 b, wv N, .int .i64 K, .string ⟨s.toArray⟩]) ∧ (RowS base hi w' rb gp cp gd cd xs xs P D) ∧ (Below w.heap.size w w'))) := ⟨_, Lib.hid (fun _ => Iff.rfl)⟩
  refine wp_region_way (S := S0_0) (by kernel_rfl) (by kernel_rfl) (fun W W' h hb => by obtain ⟨h_o, h_r, h_u⟩ := (S0_0D.out _).1 h; exact (S0_0D.out _).2 ⟨h_o.below hb h_o.lt, h_r.below hb, keepb h_u hb⟩) ((S0_0D.out _).2 ⟨H_o.out.below (Below.refl W0.heap.size W0).drew H_o.out.lt, H_r.out.below (Below.refl W0.heap.size W0).drew, keepb H_u.out (Below.refl W0.heap.size W0).drew⟩) ?_
  first
    | (refine Way.no 0 (by rfl) (by kernel_rfl) (by rfl) ?_; simp only [Act.put, List.setIfInBounds_toArray, List.set_cons_zero, List.set_cons_succ])
    | (refine' Way.yes 0 (by rfl) (by kernel_rfl) (by rfl) (fun wS hS => ?_) ?_
       rotate_left
       · obtain ⟨h_o, h_r, h_u⟩ := (S0_0D.out _).1 hS
         have c0 := h_r.c0
         have c1 := h_o.cell 1
         have c2 := h_o.cell 2
         simp only [List.getElem?_toArray, List.getElem?_cons_zero, List.getElem?_cons_succ] at c1 c2
         go_simp
         first
           | exact ⟨rfl, Below.refl _ _⟩
       simp only [Act.put, List.setIfInBounds_toArray, List.set_cons_zero, List.set_cons_succ])
  first
    | (refine Way.no 1 (by rfl) (by kernel_rfl) (by rfl) ?_; simp only [Act.put, List.setIfInBounds_toArray, List.set_cons_zero, List.set_cons_succ])
    | (refine' Way.yes 1 (by rfl) (by kernel_rfl) (by rfl) (fun wS hS => ?_) ?_
       rotate_left
       · obtain ⟨h_o, h_r, h_u⟩ := (S0_0D.out _).1 hS
         have c0 := h_r.c0
         have c1 := h_o.cell 1
         have c2 := h_o.cell 2
         simp only [List.getElem?_toArray, List.getElem?_cons_zero, List.getElem?_cons_succ] at c1 c2
         go_simp
         first
           | exact ⟨rfl, Below.refl _ _⟩
       simp only [Act.put, List.setIfInBounds_toArray, List.set_cons_zero, List.set_cons_succ])
  first
    | (refine Way.no 2 (by rfl) (by kernel_rfl) (by rfl) ?_; simp only [Act.put, List.setIfInBounds_toArray, List.set_cons_zero, List.set_cons_succ])
    | (refine' Way.yes 2 (by rfl) (by kernel_rfl) (by rfl) (fun wS hS => ?_) ?_
       rotate_left
       · obtain ⟨h_o, h_r, h_u⟩ := (S0_0D.out _).1 hS
         have c0 := h_r.c0
         have c1 := h_o.cell 1
         have c2 := h_o.cell 2
         simp only [List.getElem?_toArray, List.getElem?_cons_zero, List.getElem?_cons_succ] at c1 c2
         go_simp
         first
           | exact ⟨rfl, Below.refl _ _⟩
       simp only [Act.put, List.setIfInBounds_toArray, List.set_cons_zero, List.set_cons_succ])
  first
    | (refine Way.no 3 (by rfl) (by kernel_rfl) (by rfl) ?_; simp only [Act.put, List.setIfInBounds_toArray, List.set_cons_zero, List.set_cons_succ])
    | (refine' Way.yes 3 (by rfl) (by kernel_rfl) (by rfl) (fun wS hS => ?_) ?_
       rotate_left
       · obtain ⟨h_o, h_r, h_u⟩ := (S0_0D.out _).1 hS
         have c0 := h_r.c0
         have c1 := h_o.cell 1
         have c2 := h_o.cell 2
         simp only [List.getElem?_toArray, List.getElem?_cons_zero, List.getElem?_cons_succ] at c1 c2
         go_simp
         first
           | exact ⟨rfl, Below.refl _ _⟩
       simp only [Act.put, List.setIfInBounds_toArray, List.set_cons_zero, List.set_cons_succ])
  first
    | (refine Way.no 4 (by rfl) (by kernel_rfl) (by rfl) ?_; simp only [Act.put, List.setIfInBounds_toArray, List.set_cons_zero, List.set_cons_succ])
    | (refine' Way.yes 4 (by rfl) (by kernel_rfl) (by rfl) (fun wS hS => ?_) ?_
       rotate_left
       · obtain ⟨h_o, h_r, h_u⟩ := (S0_0D.out _).1 hS
         have c0 := h_r.c0
         have c1 := h_o.cell 1
         have c2 := h_o.cell 2
         simp only [List.getElem?_toArray, List.getElem?_cons_zero, List.getElem?_cons_succ] at c1 c2
         go_simp
         first
           | exact ⟨rfl, Below.refl _ _⟩
       simp only [Act.put, List.setIfInBounds_toArray, List.set_cons_zero, List.set_cons_succ])
  first
    | (refine Way.no 5 (by rfl) (by kernel_rfl) (by rfl) ?_; simp only [Act.put, List.setIfInBounds_toArray, List.set_cons_zero, List.set_cons_succ])
    | (refine' Way.yes 5 (by rfl) (by kernel_rfl) (by rfl) (fun wS hS => ?_) ?_
       rotate_left
       · obtain ⟨h_o, h_r, h_u⟩ := (S0_0D.out _).1 hS
         have c0 := h_r.c0
         have c1 := h_o.cell 1
         have c2 := h_o.cell 2
         simp only [List.getElem?_toArray, List.getElem?_cons_zero, List.getElem?_cons_succ] at c1 c2
         go_simp
         first
           | exact ⟨rfl, Below.refl _ _⟩
       simp only [Act.put, List.setIfInBounds_toArray, List.set_cons_zero, List.set_cons_succ])
  first
    | (refine Way.no 6 (by rfl) (by kernel_rfl) (by rfl) ?_; simp only [Act.put, List.setIfInBounds_toArray, List.set_cons_zero, List.set_cons_succ])
    | (refine' Way.yes 6 (by rfl) (by kernel_rfl) (by rfl) (fun wS hS => ?_) ?_
       rotate_left
       · obtain ⟨h_o, h_r, h_u⟩ := (S0_0D.out _).1 hS
         have c0 := h_r.c0
         have c1 := h_o.cell 1
         have c2 := h_o.cell 2
         simp only [List.getElem?_toArray, List.getElem?_cons_zero, List.getElem?_cons_succ] at c1 c2
         go_simp
         first
           | exact ⟨rfl, Below.refl _ _⟩
       simp only [Act.put, List.setIfInBounds_toArray, List.set_cons_zero, List.set_cons_succ])
  refine' Way.yes (v := .int .i64 (p1 : Nat)) 7 (by rfl) (by kernel_rfl) (by rfl) (fun wS hS => ?_) ?_
  · obtain ⟨h_o, h_r, h_u⟩ := (S0_0D.out _).1 hS
    go_simp
    exact (HPA.out _).mono fun e w2 h => h
  simp only [Act.put, List.setIfInBounds_toArray, List.set_cons_zero, List.set_cons_succ]
  first
    | (refine Way.no 8 (by rfl) (by kernel_rfl) (by rfl) ?_; simp only [Act.put, List.setIfInBounds_toArray, List.set_cons_zero, List.set_cons_succ])
    | (refine' Way.yes 8 (by rfl) (by kernel_rfl) (by rfl) (fun wS hS => ?_) ?_
       rotate_left
       · obtain ⟨h_o, h_r, h_u⟩ := (S0_0D.out _).1 hS
         have c0 := h_r.c0
         have c1 := h_o.cell 1
         have c2 := h_o.cell 2
         simp only [List.getElem?_toArray, List.getElem?_cons_zero, List.getElem?_cons_succ] at c1 c2
         go_simp
         first
           | exact ⟨rfl, Below.refl _ _⟩
       simp only [Act.put, List.setIfInBounds_toArray, List.set_cons_zero, List.set_cons_succ])
  first
    | (refine Way.no 9 (by rfl) (by kernel_rfl) (by rfl) ?_; simp only [Act.put, List.setIfInBounds_toArray, List.set_cons_zero, List.set_cons_succ])
    | (refine' Way.yes 9 (by rfl) (by kernel_rfl) (by rfl) (fun wS hS => ?_) ?_
       rotate_left
       · obtain ⟨h_o, h_r, h_u⟩ := (S0_0D.out _).1 hS
         have c0 := h_r.c0
         have c1 := h_o.cell 1
         have c2 := h_o.cell 2
         simp only [List.getElem?_toArray, List.getElem?_cons_zero, List.getElem?_cons_succ] at c1 c2
         go_simp
         first
           | exact ⟨rfl, Below.refl _ _⟩
       simp only [Act.put, List.setIfInBounds_toArray, List.set_cons_zero, List.set_cons_succ])
  first
    | (refine Way.no 10 (by rfl) (by kernel_rfl) (by rfl) ?_; simp only [Act.put, List.setIfInBounds_toArray, List.set_cons_zero, List.set_cons_succ])
    | (refine' Way.yes 10 (by rfl) (by kernel_rfl) (by rfl) (fun wS hS => ?_) ?_
       rotate_left
       · obtain ⟨h_o, h_r, h_u⟩ := (S0_0D.out _).1 hS
         have c0 := h_r.c0
         have c1 := h_o.cell 1
         have c2 := h_o.cell 2
         simp only [List.getElem?_toArray, List.getElem?_cons_zero, List.getElem?_cons_succ] at c1 c2
         go_simp
         first
           | exact ⟨rfl, Below.refl _ _⟩
       simp only [Act.put, List.setIfInBounds_toArray, List.set_cons_zero, List.set_cons_succ])
  first
    | (refine Way.no 11 (by rfl) (by kernel_rfl) (by rfl) ?_; simp only [Act.put, List.setIfInBounds_toArray, List.set_cons_zero, List.set_cons_succ])
    | (refine' Way.yes 11 (by rfl) (by kernel_rfl) (by rfl) (fun wS hS => ?_) ?_
       rotate_left
       · obtain ⟨h_o, h_r, h_u⟩ := (S0_0D.out _).1 hS
         have c0 := h_r.c0
         have c1 := h_o.cell 1
         have c2 := h_o.cell 2
         simp only [List.getElem?_toArray, List.getElem?_cons_zero, List.getElem?_cons_succ] at c1 c2
         go_simp
         first
           | exact ⟨rfl, Below.refl _ _⟩
       simp only [Act.put, List.setIfInBounds_toArray, List.set_cons_zero, List.set_cons_succ])
  first
    | (refine Way.no 12 (by rfl) (by kernel_rfl) (by rfl) ?_; simp only [Act.put, List.setIfInBounds_toArray, List.set_cons_zero, List.set_cons_succ])
    | (refine' Way.yes 12 (by rfl) (by kernel_rfl) (by rfl) (fun wS hS => ?_) ?_
       rotate_left
       · obtain ⟨h_o, h_r, h_u⟩ := (S0_0D.out _).1 hS
         have c0 := h_r.c0
         have c1 := h_o.cell 1
         have c2 := h_o.cell 2
         simp only [List.getElem?_toArray, List.getElem?_cons_zero, List.getElem?_cons_succ] at c1 c2
         go_simp
         first
           | exact ⟨rfl, Below.refl _ _⟩
       simp only [Act.put, List.setIfInBounds_toArray, List.set_cons_zero, List.set_cons_succ])
  first
    | (refine Way.no 13 (by rfl) (by kernel_rfl) (by rfl) ?_; simp only [Act.put, List.setIfInBounds_toArray, List.set_cons_zero, List.set_cons_succ])
    | (refine' Way.yes 13 (by rfl) (by kernel_rfl) (by rfl) (fun wS hS => ?_) ?_
       rotate_left
       · obtain ⟨h_o, h_r, h_u⟩ := (S0_0D.out _).1 hS
         have c0 := h_r.c0
         have c1 := h_o.cell 1
         have c2 := h_o.cell 2
         simp only [List.getElem?_toArray, List.getElem?_cons_zero, List.getElem?_cons_succ] at c1 c2
         go_simp
         first
           | exact ⟨rfl, Below.refl _ _⟩
       simp only [Act.put, List.setIfInBounds_toArray, List.set_cons_zero, List.set_cons_succ])
  first
    | (refine Way.no 14 (by rfl) (by kernel_rfl) (by rfl) ?_; simp only [Act.put, List.setIfInBounds_toArray, List.set_cons_zero, List.set_cons_succ])
    | (refine' Way.yes 14 (by rfl) (by kernel_rfl) (by rfl) (fun wS hS => ?_) ?_
       rotate_left
       · obtain ⟨h_o, h_r, h_u⟩ := (S0_0D.out _).1 hS
         have c0 := h_r.c0
         have c1 := h_o.cell 1
         have c2 := h_o.cell 2
         simp only [List.getElem?_toArray, List.getElem?_cons_zero, List.getElem?_cons_succ] at c1 c2
         go_simp
         first
           | exact ⟨rfl, Below.refl _ _⟩
       simp only [Act.put, List.setIfInBounds_toArray, List.set_cons_zero, List.set_cons_succ])
  refine' Way.yes (v := .int .i64 (p2 : Nat)) 15 (by rfl) (by kernel_rfl) (by rfl) (fun wS hS => ?_) ?_
  · obtain ⟨h_o, h_r, h_u⟩ := (S0_0D.out _).1 hS
    go_simp
    exact (HPB.out _).mono fun e w2 h => h
  simp only [Act.put, List.setIfInBounds_toArray, List.set_cons_zero, List.set_cons_succ]
  first
    | (refine Way.no 16 (by rfl) (by kernel_rfl) (by rfl) ?_; simp only [Act.put, List.setIfInBounds_toArray, List.set_cons_zero, List.set_cons_succ])
    | (refine' Way.yes 16 (by rfl) (by kernel_rfl) (by rfl) (fun wS hS => ?_) ?_
       rotate_left
       · obtain ⟨h_o, h_r, h_u⟩ := (S0_0D.out _).1 hS
         go_simp
         first
           | exact ⟨rfl, Below.refl _ _⟩
       simp only [Act.put, List.setIfInBounds_toArray, List.set_cons_zero, List.set_cons_succ])
  first
    | (refine Way.no 17 (by rfl) (by kernel_rfl) (by rfl) ?_; simp only [Act.put, List.setIfInBounds_toArray, List.set_cons_zero, List.set_cons_succ])
    | (refine' Way.yes 17 (by rfl) (by kernel_rfl) (by rfl) (fun wS hS => ?_) ?_
       rotate_left
       · obtain ⟨h_o, h_r, h_u⟩ := (S0_0D.out _).1 hS
         go_simp
         first
           | exact ⟨rfl, Below.refl _ _⟩
       simp only [Act.put, List.setIfInBounds_toArray, List.set_cons_zero, List.set_cons_succ])
  refine Way.done (by kernel_rfl) (fun v1 hS => ?_)
  obtain ⟨h_o, h_r, h_u⟩ := (S0_0D.out _).1 hS
  have H_o := Lib.hid h_o
  have H_r := Lib.hid h_r
  have H_u := Lib.hid h_u
  clear hS h_o h_r h_u
  go_upto_region 2 with fail
  obtain ⟨S1_0, S1_0D⟩ : ∃ S : World → Prop, Go.RowKit.Hid (∀ w' : World, S w' ↔ ((Blk w' w.heap.size 37 #[.int .i64 kind, .int .i64 a, .int .i64 b, wv N, .int .i64 K, .string ⟨s.toArray⟩]) ∧ (RowS base hi w' rb gp cp gd cd xs xs P D) ∧ (Below w.heap.size w w'))) := ⟨_, Lib.hid (fun _ => Iff.rfl)⟩
  refine wp_region_way (S := S1_0) (by kernel_rfl) (by kernel_rfl) (fun W W' h hb => by obtain ⟨h_o, h_r, h_u⟩ := (S1_0D.out _).1 h; exact (S1_0D.out _).2 ⟨h_o.below hb h_o.lt, h_r.below hb, keepb h_u hb⟩) ((S1_0D.out _).2 ⟨H_o.out.below (Below.refl v1.heap.size v1).drew H_o.out.lt, H_r.out.below (Below.refl v1.heap.size v1).drew, keepb H_u.out (Below.refl v1.heap.size v1).drew⟩) ?_
  first
    | (refine Way.no 0 (by rfl) (by kernel_rfl) (by rfl) ?_; simp only [Act.put, List.setIfInBounds_toArray, List.set_cons_zero, List.set_cons_succ])
    | (refine' Way.yes 0 (by rfl) (by kernel_rfl) (by rfl) (fun wS hS => ?_) ?_
       rotate_left
       · obtain ⟨h_o, h_r, h_u⟩ := (S1_0D.out _).1 hS
         have c0 := h_r.c0
         have cd0 := h_r.c1
         have e1 := HC1.out _ h_u
         have e2 := HC2.out _ h_u
         have e3 := HD1.out _ h_u
         have e4 := HD2.out _ h_u
         go_simp
         first
           | exact ⟨rfl, Below.refl _ _⟩
       simp only [Act.put, List.setIfInBounds_toArray, List.set_cons_zero, List.set_cons_succ])
  first
    | (refine Way.no 1 (by rfl) (by kernel_rfl) (by rfl) ?_; simp only [Act.put, List.setIfInBounds_toArray, List.set_cons_zero, List.set_cons_succ])
    | (refine' Way.yes 1 (by rfl) (by kernel_rfl) (by rfl) (fun wS hS => ?_) ?_
       rotate_left
       · obtain ⟨h_o, h_r, h_u⟩ := (S1_0D.out _).1 hS
         have c0 := h_r.c0
         have cd0 := h_r.c1
         have e1 := HC1.out _ h_u
         have e2 := HC2.out _ h_u
         have e3 := HD1.out _ h_u
         have e4 := HD2.out _ h_u
         go_simp
         first
           | exact ⟨rfl, Below.refl _ _⟩
       simp only [Act.put, List.setIfInBounds_toArray, List.set_cons_zero, List.set_cons_succ])
  first
    | (refine Way.no 2 (by rfl) (by kernel_rfl) (by rfl) ?_; simp only [Act.put, List.setIfInBounds_toArray, List.set_cons_zero, List.set_cons_succ])
    | (refine' Way.yes 2 (by rfl) (by kernel_rfl) (by rfl) (fun wS hS => ?_) ?_
       rotate_left
       · obtain ⟨h_o, h_r, h_u⟩ := (S1_0D.out _).1 hS
         have c0 := h_r.c0
         have cd0 := h_r.c1
         have e1 := HC1.out _ h_u
         have e2 := HC2.out _ h_u
         have e3 := HD1.out _ h_u
         have e4 := HD2.out _ h_u
         go_simp
         first
           | exact ⟨rfl, Below.refl _ _⟩
       simp only [Act.put, List.setIfInBounds_toArray, List.set_cons_zero, List.set_cons_succ])
  first
    | (refine Way.no 3 (by rfl) (by kernel_rfl) (by rfl) ?_; simp only [Act.put, List.setIfInBounds_toArray, List.set_cons_zero, List.set_cons_succ])
    | (refine' Way.yes 3 (by rfl) (by kernel_rfl) (by rfl) (fun wS hS => ?_) ?_
       rotate_left
       · obtain ⟨h_o, h_r, h_u⟩ := (S1_0D.out _).1 hS
         have c0 := h_r.c0
         have cd0 := h_r.c1
         have e1 := HC1.out _ h_u
         have e2 := HC2.out _ h_u
         have e3 := HD1.out _ h_u
         have e4 := HD2.out _ h_u
         go_simp
         first
           | exact ⟨rfl, Below.refl _ _⟩
       simp only [Act.put, List.setIfInBounds_toArray, List.set_cons_zero, List.set_cons_succ])
  first
    | (refine Way.no 4 (by rfl) (by kernel_rfl) (by rfl) ?_; simp only [Act.put, List.setIfInBounds_toArray, List.set_cons_zero, List.set_cons_succ])
    | (refine' Way.yes 4 (by rfl) (by kernel_rfl) (by rfl) (fun wS hS => ?_) ?_
       rotate_left
       · obtain ⟨h_o, h_r, h_u⟩ := (S1_0D.out _).1 hS
         have c0 := h_r.c0
         have cd0 := h_r.c1
         have e1 := HC1.out _ h_u
         have e2 := HC2.out _ h_u
         have e3 := HD1.out _ h_u
         have e4 := HD2.out _ h_u
         go_simp
         first
           | exact ⟨rfl, Below.refl _ _⟩
       simp only [Act.put, List.setIfInBounds_toArray, List.set_cons_zero, List.set_cons_succ])
  first
    | (refine Way.no 5 (by rfl) (by kernel_rfl) (by rfl) ?_; simp only [Act.put, List.setIfInBounds_toArray, List.set_cons_zero, List.set_cons_succ])
    | (refine' Way.yes 5 (by rfl) (by kernel_rfl) (by rfl) (fun wS hS => ?_) ?_
       rotate_left
       · obtain ⟨h_o, h_r, h_u⟩ := (S1_0D.out _).1 hS
         have c0 := h_r.c0
         have cd0 := h_r.c1
         have e1 := HC1.out _ h_u
         have e2 := HC2.out _ h_u
         have e3 := HD1.out _ h_u
         have e4 := HD2.out _ h_u
         go_simp
         first
           | exact ⟨rfl, Below.refl _ _⟩
       simp only [Act.put, List.setIfInBounds_toArray, List.set_cons_zero, List.set_cons_succ])
  first
    | (refine Way.no 6 (by rfl) (by kernel_rfl) (by rfl) ?_; simp only [Act.put, List.setIfInBounds_toArray, List.set_cons_zero, List.set_cons_succ])
    | (refine' Way.yes 6 (by rfl) (by kernel_rfl) (by rfl) (fun wS hS => ?_) ?_
       rotate_left
       · obtain ⟨h_o, h_r, h_u⟩ := (S1_0D.out _).1 hS
         have c0 := h_r.c0
         have cd0 := h_r.c1
         have e1 := HC1.out _ h_u
         have e2 := HC2.out _ h_u
         have e3 := HD1.out _ h_u
         have e4 := HD2.out _ h_u
         go_simp
         first
           | exact ⟨rfl, Below.refl _ _⟩
       simp only [Act.put, List.setIfInBounds_toArray, List.set_cons_zero, List.set_cons_succ])
  first
    | (refine Way.no 7 (by rfl) (by kernel_rfl) (by rfl) ?_; simp only [Act.put, List.setIfInBounds_toArray, List.set_cons_zero, List.set_cons_succ])
    | (refine' Way.yes 7 (by rfl) (by kernel_rfl) (by rfl) (fun wS hS => ?_) ?_
       rotate_left
       · obtain ⟨h_o, h_r, h_u⟩ := (S1_0D.out _).1 hS
         have c0 := h_r.c0
         have cd0 := h_r.c1
         have e1 := HC1.out _ h_u
         have e2 := HC2.out _ h_u
         have e3 := HD1.out _ h_u
         have e4 := HD2.out _ h_u
         go_simp
         first
           | exact ⟨rfl, Below.refl _ _⟩
       simp only [Act.put, List.setIfInBounds_toArray, List.set_cons_zero, List.set_cons_succ])
  first
    | (refine Way.no 8 (by rfl) (by kernel_rfl) (by rfl) ?_; simp only [Act.put, List.setIfInBounds_toArray, List.set_cons_zero, List.set_cons_succ])
    | (refine' Way.yes 8 (by rfl) (by kernel_rfl) (by rfl) (fun wS hS => ?_) ?_
       rotate_left
       · obtain ⟨h_o, h_r, h_u⟩ := (S1_0D.out _).1 hS
         have c0 := h_r.c0
         have cd0 := h_r.c1
         have e1 := HC1.out _ h_u
         have e2 := HC2.out _ h_u
         have e3 := HD1.out _ h_u
         have e4 := HD2.out _ h_u
         go_simp
         first
           | exact ⟨rfl, Below.refl _ _⟩
       simp only [Act.put, List.setIfInBounds_toArray, List.set_cons_zero, List.set_cons_succ])
  first
    | (refine Way.no 9 (by rfl) (by kernel_rfl) (by rfl) ?_; simp only [Act.put, List.setIfInBounds_toArray, List.set_cons_zero, List.set_cons_succ])
    | (refine' Way.yes 9 (by rfl) (by kernel_rfl) (by rfl) (fun wS hS => ?_) ?_
       rotate_left
       · obtain ⟨h_o, h_r, h_u⟩ := (S1_0D.out _).1 hS
         have c0 := h_r.c0
         have cd0 := h_r.c1
         have e1 := HC1.out _ h_u
         have e2 := HC2.out _ h_u
         have e3 := HD1.out _ h_u
         have e4 := HD2.out _ h_u
         go_simp
         first
           | exact ⟨rfl, Below.refl _ _⟩
       simp only [Act.put, List.setIfInBounds_toArray, List.set_cons_zero, List.set_cons_succ])
  first
    | (refine Way.no 10 (by rfl) (by kernel_rfl) (by rfl) ?_; simp only [Act.put, List.setIfInBounds_toArray, List.set_cons_zero, List.set_cons_succ])
    | (refine' Way.yes 10 (by rfl) (by kernel_rfl) (by rfl) (fun wS hS => ?_) ?_
       rotate_left
       · obtain ⟨h_o, h_r, h_u⟩ := (S1_0D.out _).1 hS
         have c0 := h_r.c0
         have cd0 := h_r.c1
         have e1 := HC1.out _ h_u
         have e2 := HC2.out _ h_u
         have e3 := HD1.out _ h_u
         have e4 := HD2.out _ h_u
         go_simp
         first
           | exact ⟨rfl, Below.refl _ _⟩
       simp only [Act.put, List.setIfInBounds_toArray, List.set_cons_zero, List.set_cons_succ])
  first
    | (refine Way.no 11 (by rfl) (by kernel_rfl) (by rfl) ?_; simp only [Act.put, List.setIfInBounds_toArray, List.set_cons_zero, List.set_cons_succ])
    | (refine' Way.yes 11 (by rfl) (by kernel_rfl) (by rfl) (fun wS hS => ?_) ?_
       rotate_left
       · obtain ⟨h_o, h_r, h_u⟩ := (S1_0D.out _).1 hS
         have c0 := h_r.c0
         have cd0 := h_r.c1
         have e1 := HC1.out _ h_u
         have e2 := HC2.out _ h_u
         have e3 := HD1.out _ h_u
         have e4 := HD2.out _ h_u
         go_simp
         first
           | exact ⟨rfl, Below.refl _ _⟩
       simp only [Act.put, List.setIfInBounds_toArray, List.set_cons_zero, List.set_cons_succ])
  first
    | (refine Way.no 12 (by rfl) (by kernel_rfl) (by rfl) ?_; simp only [Act.put, List.setIfInBounds_toArray, List.set_cons_zero, List.set_cons_succ])
    | (refine' Way.yes 12 (by rfl) (by kernel_rfl) (by rfl) (fun wS hS => ?_) ?_
       rotate_left
       · obtain ⟨h_o, h_r, h_u⟩ := (S1_0D.out _).1 hS
         have c0 := h_r.c0
         have cd0 := h_r.c1
         have e1 := HC1.out _ h_u
         have e2 := HC2.out _ h_u
         have e3 := HD1.out _ h_u
         have e4 := HD2.out _ h_u
         go_simp
         first
           | exact ⟨rfl, Below.refl _ _⟩
       simp only [Act.put, List.setIfInBounds_toArray, List.set_cons_zero, List.set_cons_succ])
  first
    | (refine Way.no 13 (by rfl) (by kernel_rfl) (by rfl) ?_; simp only [Act.put, List.setIfInBounds_toArray, List.set_cons_zero, List.set_cons_succ])
    | (refine' Way.yes 13 (by rfl) (by kernel_rfl) (by rfl) (fun wS hS => ?_) ?_
       rotate_left
       · obtain ⟨h_o, h_r, h_u⟩ := (S1_0D.out _).1 hS
         have c0 := h_r.c0
         have cd0 := h_r.c1
         have e1 := HC1.out _ h_u
         have e2 := HC2.out _ h_u
         have e3 := HD1.out _ h_u
         have e4 := HD2.out _ h_u
         go_simp
         first
           | exact ⟨rfl, Below.refl _ _⟩
       simp only [Act.put, List.setIfInBounds_toArray, List.set_cons_zero, List.set_cons_succ])
  first
    | (refine Way.no 14 (by rfl) (by kernel_rfl) (by rfl) ?_; simp only [Act.put, List.setIfInBounds_toArray, List.set_cons_zero, List.set_cons_succ])
    | (refine' Way.yes 14 (by rfl) (by kernel_rfl) (by rfl) (fun wS hS => ?_) ?_
       rotate_left
       · obtain ⟨h_o, h_r, h_u⟩ := (S1_0D.out _).1 hS
         have c0 := h_r.c0
         have cd0 := h_r.c1
         have e1 := HC1.out _ h_u
         have e2 := HC2.out _ h_u
         have e3 := HD1.out _ h_u
         have e4 := HD2.out _ h_u
         go_simp
         first
           | exact ⟨rfl, Below.refl _ _⟩
       simp only [Act.put, List.setIfInBounds_toArray, List.set_cons_zero, List.set_cons_succ])
  first
    | (refine Way.no 15 (by rfl) (by kernel_rfl) (by rfl) ?_; simp only [Act.put, List.setIfInBounds_toArray, List.set_cons_zero, List.set_cons_succ])
    | (refine' Way.yes 15 (by rfl) (by kernel_rfl) (by rfl) (fun wS hS => ?_) ?_
       rotate_left
       · obtain ⟨h_o, h_r, h_u⟩ := (S1_0D.out _).1 hS
         have c0 := h_r.c0
         have cd0 := h_r.c1
         have e1 := HC1.out _ h_u
         have e2 := HC2.out _ h_u
         have e3 := HD1.out _ h_u
         have e4 := HD2.out _ h_u
         go_simp
         first
           | exact ⟨rfl, Below.refl _ _⟩
       simp only [Act.put, List.setIfInBounds_toArray, List.set_cons_zero, List.set_cons_succ])
  first
    | (refine Way.no 16 (by rfl) (by kernel_rfl) (by rfl) ?_; simp only [Act.put, List.setIfInBounds_toArray, List.set_cons_zero, List.set_cons_succ])
    | (refine' Way.yes 16 (by rfl) (by kernel_rfl) (by rfl) (fun wS hS => ?_) ?_
       rotate_left
       · obtain ⟨h_o, h_r, h_u⟩ := (S1_0D.out _).1 hS
         have c0 := h_r.c0
         have cd0 := h_r.c1
         have e1 := HC1.out _ h_u
         have e2 := HC2.out _ h_u
         have e3 := HD1.out _ h_u
         have e4 := HD2.out _ h_u
         go_simp
         first
           | exact ⟨rfl, Below.refl _ _⟩
       simp only [Act.put, List.setIfInBounds_toArray, List.set_cons_zero, List.set_cons_succ])
  first
    | (refine Way.no 17 (by rfl) (by kernel_rfl) (by rfl) ?_; simp only [Act.put, List.setIfInBounds_toArray, List.set_cons_zero, List.set_cons_succ])
    | (refine' Way.yes 17 (by rfl) (by kernel_rfl) (by rfl) (fun wS hS => ?_) ?_
       rotate_left
       · obtain ⟨h_o, h_r, h_u⟩ := (S1_0D.out _).1 hS
         have c0 := h_r.c0
         have cd0 := h_r.c1
         have e1 := HC1.out _ h_u
         have e2 := HC2.out _ h_u
         have e3 := HD1.out _ h_u
         have e4 := HD2.out _ h_u
         go_simp
         first
           | exact ⟨rfl, Below.refl _ _⟩
       simp only [Act.put, List.setIfInBounds_toArray, List.set_cons_zero, List.set_cons_succ])
  first
    | (refine Way.no 18 (by rfl) (by kernel_rfl) (by rfl) ?_; simp only [Act.put, List.setIfInBounds_toArray, List.set_cons_zero, List.set_cons_succ])
    | (refine' Way.yes 18 (by rfl) (by kernel_rfl) (by rfl) (fun wS hS => ?_) ?_
       rotate_left
       · obtain ⟨h_o, h_r, h_u⟩ := (S1_0D.out _).1 hS
         have c0 := h_r.c0
         have cd0 := h_r.c1
         have e1 := HC1.out _ h_u
         have e2 := HC2.out _ h_u
         have e3 := HD1.out _ h_u
         have e4 := HD2.out _ h_u
         go_simp
         first
           | exact ⟨rfl, Below.refl _ _⟩
       simp only [Act.put, List.setIfInBounds_toArray, List.set_cons_zero, List.set_cons_succ])
  first
    | (refine Way.no 19 (by rfl) (by kernel_rfl) (by rfl) ?_; simp only [Act.put, List.setIfInBounds_toArray, List.set_cons_zero, List.set_cons_succ])
    | (refine' Way.yes 19 (by rfl) (by kernel_rfl) (by rfl) (fun wS hS => ?_) ?_
       rotate_left
       · obtain ⟨h_o, h_r, h_u⟩ := (S1_0D.out _).1 hS
         have c0 := h_r.c0
         have cd0 := h_r.c1
         have e1 := HC1.out _ h_u
         have e2 := HC2.out _ h_u
         have e3 := HD1.out _ h_u
         have e4 := HD2.out _ h_u
         go_simp
         first
           | exact ⟨rfl, Below.refl _ _⟩
       simp only [Act.put, List.setIfInBounds_toArray, List.set_cons_zero, List.set_cons_succ])
  first
    | (refine Way.no 20 (by rfl) (by kernel_rfl) (by rfl) ?_; simp only [Act.put, List.setIfInBounds_toArray, List.set_cons_zero, List.set_cons_succ])
    | (refine' Way.yes 20 (by rfl) (by kernel_rfl) (by rfl) (fun wS hS => ?_) ?_
       rotate_left
       · obtain ⟨h_o, h_r, h_u⟩ := (S1_0D.out _).1 hS
         have c0 := h_r.c0
         have cd0 := h_r.c1
         have e1 := HC1.out _ h_u
         have e2 := HC2.out _ h_u
         have e3 := HD1.out _ h_u
         have e4 := HD2.out _ h_u
         go_simp
         first
           | exact ⟨rfl, Below.refl _ _⟩
       simp only [Act.put, List.setIfInBounds_toArray, List.set_cons_zero, List.set_cons_succ])
  first
    | (refine Way.no 21 (by rfl) (by kernel_rfl) (by rfl) ?_; simp only [Act.put, List.setIfInBounds_toArray, List.set_cons_zero, List.set_cons_succ])
    | (refine' Way.yes 21 (by rfl) (by kernel_rfl) (by rfl) (fun wS hS => ?_) ?_
       rotate_left
       · obtain ⟨h_o, h_r, h_u⟩ := (S1_0D.out _).1 hS
         have c0 := h_r.c0
         have cd0 := h_r.c1
         have e1 := HC1.out _ h_u
         have e2 := HC2.out _ h_u
         have e3 := HD1.out _ h_u
         have e4 := HD2.out _ h_u
         go_simp
         first
           | exact ⟨rfl, Below.refl _ _⟩
       simp only [Act.put, List.setIfInBounds_toArray, List.set_cons_zero, List.set_cons_succ])
  first
    | (refine Way.no 22 (by rfl) (by kernel_rfl) (by rfl) ?_; simp only [Act.put, List.setIfInBounds_toArray, List.set_cons_zero, List.set_cons_succ])
    | (refine' Way.yes 22 (by rfl) (by kernel_rfl) (by rfl) (fun wS hS => ?_) ?_
       rotate_left
       · obtain ⟨h_o, h_r, h_u⟩ := (S1_0D.out _).1 hS
         have c0 := h_r.c0
         have cd0 := h_r.c1
         have e1 := HC1.out _ h_u
         have e2 := HC2.out _ h_u
         have e3 := HD1.out _ h_u
         have e4 := HD2.out _ h_u
         go_simp
         first
           | exact ⟨rfl, Below.refl _ _⟩
       simp only [Act.put, List.setIfInBounds_toArray, List.set_cons_zero, List.set_cons_succ])
  first
    | (refine Way.no 23 (by rfl) (by kernel_rfl) (by rfl) ?_; simp only [Act.put, List.setIfInBounds_toArray, List.set_cons_zero, List.set_cons_succ])
    | (refine' Way.yes 23 (by rfl) (by kernel_rfl) (by rfl) (fun wS hS => ?_) ?_
       rotate_left
       · obtain ⟨h_o, h_r, h_u⟩ := (S1_0D.out _).1 hS
         have c0 := h_r.c0
         have cd0 := h_r.c1
         have e1 := HC1.out _ h_u
         have e2 := HC2.out _ h_u
         have e3 := HD1.out _ h_u
         have e4 := HD2.out _ h_u
         go_simp
         first
           | exact ⟨rfl, Below.refl _ _⟩
       simp only [Act.put, List.setIfInBounds_toArray, List.set_cons_zero, List.set_cons_succ])
  first
    | (refine Way.no 24 (by rfl) (by kernel_rfl) (by rfl) ?_; simp only [Act.put, List.setIfInBounds_toArray, List.set_cons_zero, List.set_cons_succ])
    | (refine' Way.yes 24 (by rfl) (by kernel_rfl) (by rfl) (fun wS hS => ?_) ?_
       rotate_left
       · obtain ⟨h_o, h_r, h_u⟩ := (S1_0D.out _).1 hS
         have c0 := h_r.c0
         have cd0 := h_r.c1
         have e1 := HC1.out _ h_u
         have e2 := HC2.out _ h_u
         have e3 := HD1.out _ h_u
         have e4 := HD2.out _ h_u
         go_simp
         first
           | exact ⟨rfl, Below.refl _ _⟩
       simp only [Act.put, List.setIfInBounds_toArray, List.set_cons_zero, List.set_cons_succ])
  first
    | (refine Way.no 25 (by rfl) (by kernel_rfl) (by rfl) ?_; simp only [Act.put, List.setIfInBounds_toArray, List.set_cons_zero, List.set_cons_succ])
    | (refine' Way.yes 25 (by rfl) (by kernel_rfl) (by rfl) (fun wS hS => ?_) ?_
       rotate_left
       · obtain ⟨h_o, h_r, h_u⟩ := (S1_0D.out _).1 hS
         have c0 := h_r.c0
         have cd0 := h_r.c1
         have e1 := HC1.out _ h_u
         have e2 := HC2.out _ h_u
         have e3 := HD1.out _ h_u
         have e4 := HD2.out _ h_u
         go_simp
         first
           | exact ⟨rfl, Below.refl _ _⟩
       simp only [Act.put, List.setIfInBounds_toArray, List.set_cons_zero, List.set_cons_succ])
  first
    | (refine Way.no 26 (by rfl) (by kernel_rfl) (by rfl) ?_; simp only [Act.put, List.setIfInBounds_toArray, List.set_cons_zero, List.set_cons_succ])
    | (refine' Way.yes 26 (by rfl) (by kernel_rfl) (by rfl) (fun wS hS => ?_) ?_
       rotate_left
       · obtain ⟨h_o, h_r, h_u⟩ := (S1_0D.out _).1 hS
         have c0 := h_r.c0
         have cd0 := h_r.c1
         have e1 := HC1.out _ h_u
         have e2 := HC2.out _ h_u
         have e3 := HD1.out _ h_u
         have e4 := HD2.out _ h_u
         go_simp
         first
           | exact ⟨rfl, Below.refl _ _⟩
       simp only [Act.put, List.setIfInBounds_toArray, List.set_cons_zero, List.set_cons_succ])
  first
    | (refine Way.no 27 (by rfl) (by kernel_rfl) (by rfl) ?_; simp only [Act.put, List.setIfInBounds_toArray, List.set_cons_zero, List.set_cons_succ])
    | (refine' Way.yes 27 (by rfl) (by kernel_rfl) (by rfl) (fun wS hS => ?_) ?_
       rotate_left
       · obtain ⟨h_o, h_r, h_u⟩ := (S1_0D.out _).1 hS
         have c0 := h_r.c0
         have cd0 := h_r.c1
         have e1 := HC1.out _ h_u
         have e2 := HC2.out _ h_u
         have e3 := HD1.out _ h_u
         have e4 := HD2.out _ h_u
         go_simp
         first
           | exact ⟨rfl, Below.refl _ _⟩
       simp only [Act.put, List.setIfInBounds_toArray, List.set_cons_zero, List.set_cons_succ])
  refine Way.allocs4 (.slice none 0 0) (w.heap.size + 1) 28 29 30 31 26 26 31 31 7 8 9 10 (by kernel_rfl) (by decide) (by decide) ⟨_, rfl, rfl, rfl, fun ρ w => by go_simp⟩ ⟨_, rfl, rfl, rfl, fun ρ w => by go_simp⟩ ⟨_, rfl, rfl, rfl, fun ρ w => by go_simp⟩ ⟨_, rfl, rfl, rfl, fun ρ w => by go_simp⟩ (fun W W' h hb => by obtain ⟨h_o, h_r, h_u⟩ := (S1_0D.out _).1 h; exact (S1_0D.out _).2 ⟨h_o.below hb h_o.lt, h_r.below hb, keepb h_u hb⟩) (fun W h => by obtain ⟨h_o, h_r, h_u⟩ := (S1_0D.out _).1 h; exact h_o.lt) ?_
  intro g7 g8 g9 g10 b_g7 b_g8 b_g9 b_g10 n_g7_g8 n_g7_g9 n_g7_g10 n_g8_g9 n_g8_g10 n_g9_g10 S1_1 hS2
  have S1_1D : Go.RowKit.Hid (∀ w' : World, S1_1 w' ↔ ((Blk w' w.heap.size 37 #[.int .i64 kind, .int .i64 a, .int .i64 b, wv N, .int .i64 K, .string ⟨s.toArray⟩]) ∧ (RowS base hi w' rb gp cp gd cd xs xs P D) ∧ (Below w.heap.size w w') ∧ (BlkU w' g7 26) ∧ (BlkU w' g8 26) ∧ (BlkU w' g9 31) ∧ (BlkU w' g10 31))) := Lib.hid (fun w' => (hS2 w').trans ⟨fun h => by obtain ⟨h_o, h_r, h_u⟩ := (S1_0D.out _).1 h.1; exact ⟨h_o, h_r, h_u, h.2⟩, fun h => by obtain ⟨h_o, h_r, h_u, h_z_g7, h_z_g8, h_z_g9, h_z_g10⟩ := h; exact ⟨(S1_0D.out _).2 ⟨h_o, h_r, h_u⟩, ⟨h_z_g7, h_z_g8, h_z_g9, h_z_g10⟩⟩⟩)
  clear hS2
  try simp only [Act.put, List.setIfInBounds_toArray, List.set_cons_zero, List.set_cons_succ]
  refine Way.move 32 (by rfl) (by kernel_rfl) (by rfl) (fun wA hS => ?_)
  obtain ⟨h_o, h_r, h_u, h_z_g7, h_z_g8, h_z_g9, h_z_g10⟩ := (S1_1D.out _).1 hS
  clear hS
  obtain ⟨u0, hu0⟩ := h_z_g7
  have f0 := hu0.frozen 0
  have k0 := hu0.cell 0
  simp at k0
  have h_z_g7 : BlkU wA g7 26 := ⟨u0, hu0⟩
  have ho1 := h_r.hrb
  have ho2 := h_r.hgp
  have ho3 := h_r.hgd
  have ho4 := HHI.out
  go_simp
  obtain ⟨S1_2, S1_2D⟩ : ∃ S : World → Prop, Go.RowKit.Hid (∀ w' : World, S w' ↔ ((Blk w' w.heap.size 37 #[.int .i64 kind, .int .i64 a, .int .i64 b, wv N, .int .i64 K, .string ⟨s.toArray⟩]) ∧ (RowS base hi w' rb gp cp gd cd xs xs P D) ∧ (Below w.heap.size w w') ∧ (BlkU w' g7 26) ∧ (BlkU w' g8 26) ∧ (BlkU w' g9 31) ∧ (BlkU w' g10 31) ∧ (Blk w' g7 26 #[.slice A1 n1 c1]))) := ⟨_, Lib.hid (fun _ => Iff.rfl)⟩
  refine Moved.keep S1_2 (fun W W' h hb => by obtain ⟨h_o, h_r, h_u, h_z_g7, h_z_g8, h_z_g9, h_z_g10, h_n⟩ := (S1_2D.out _).1 h; exact (S1_2D.out _).2 ⟨h_o.below hb h_o.lt, h_r.below hb, keepb h_u hb, h_z_g7.below hb, h_z_g8.below hb, h_z_g9.below hb, h_z_g10.below hb, h_n.below hb h_n.lt⟩) (fun W h => by obtain ⟨h_o, h_r, h_u, h_z_g7, h_z_g8, h_z_g9, h_z_g10, h_n⟩ := (S1_2D.out _).1 h; exact (S1_1D.out _).2 ⟨h_o, h_r, h_u, h_z_g7, h_z_g8, h_z_g9, h_z_g10⟩) ((S1_2D.out _).2 ⟨h_o.far (by first | (dsimp only; omega) | (simp; done) | (simp; omega)) _, h_r.farr (by first | (simp; omega) | omega) hu0 (by decide) (by decide) _, h_u.setCell (by first | (dsimp only; omega) | (simp; done) | (simp; omega)) _, ⟨_, h_z_g7.set _⟩, h_z_g8.far (by first | (dsimp only; omega) | (simp; done) | (simp; omega)) _, h_z_g9.far (by first | (dsimp only; omega) | (simp; done) | (simp; omega)) _, h_z_g10.far (by first | (dsimp only; omega) | (simp; done) | (simp; omega)) _, h_z_g7.set _⟩) ?_
  clear h_o h_r h_u h_z_g7 h_z_g8 h_z_g9 h_z_g10 hu0 f0 k0 ho1 ho2 ho3 ho4
  try simp only [Act.put, List.setIfInBounds_toArray, List.set_cons_zero, List.set_cons_succ]
  refine Way.move 33 (by rfl) (by kernel_rfl) (by rfl) (fun wA hS => ?_)
  obtain ⟨h_o, h_r, h_u, h_z_g7, h_z_g8, h_z_g9, h_z_g10, h_n⟩ := (S1_2D.out _).1 hS
  clear hS
  obtain ⟨u0, hu0⟩ := h_z_g8
  have f0 := hu0.frozen 0
  have k0 := hu0.cell 0
  simp at k0
  have h_z_g8 : BlkU wA g8 26 := ⟨u0, hu0⟩
  have ho1 := h_r.hrb
  have ho2 := h_r.hgp
  have ho3 := h_r.hgd
  have ho4 := HHI.out
  go_simp
  obtain ⟨S1_3, S1_3D⟩ : ∃ S : World → Prop, Go.RowKit.Hid (∀ w' : World, S w' ↔ ((Blk w' w.heap.size 37 #[.int .i64 kind, .int .i64 a, .int .i64 b, wv N, .int .i64 K, .string ⟨s.toArray⟩]) ∧ (RowS base hi w' rb gp cp gd cd xs xs P D) ∧ (Below w.heap.size w w') ∧ (BlkU w' g7 26) ∧ (BlkU w' g8 26) ∧ (BlkU w' g9 31) ∧ (BlkU w' g10 31) ∧ (Blk w' g7 26 #[.slice A1 n1 c1]) ∧ (Blk w' g8 26 #[.slice A2 n2 c2]))) := ⟨_, Lib.hid (fun _ => Iff.rfl)⟩
  refine Moved.keep S1_3 (fun W W' h hb => by obtain ⟨h_o, h_r, h_u, h_z_g7, h_z_g8, h_z_g9, h_z_g10, h_n, h_m⟩ := (S1_3D.out _).1 h; exact (S1_3D.out _).2 ⟨h_o.below hb h_o.lt, h_r.below hb, keepb h_u hb, h_z_g7.below hb, h_z_g8.below hb, h_z_g9.below hb, h_z_g10.below hb, h_n.below hb h_n.lt, h_m.below hb h_m.lt⟩) (fun W h => by obtain ⟨h_o, h_r, h_u, h_z_g7, h_z_g8, h_z_g9, h_z_g10, h_n, h_m⟩ := (S1_3D.out _).1 h; exact (S1_2D.out _).2 ⟨h_o, h_r, h_u, h_z_g7, h_z_g8, h_z_g9, h_z_g10, h_n⟩) ((S1_3D.out _).2 ⟨h_o.far (by first | (dsimp only; omega) | (simp; done) | (simp; omega)) _, h_r.farr (by first | (simp; omega) | omega) hu0 (by decide) (by decide) _, h_u.setCell (by first | (dsimp only; omega) | (simp; done) | (simp; omega)) _, h_z_g7.far (by first | (dsimp only; omega) | (simp; done) | (simp; omega)) _, ⟨_, h_z_g8.set _⟩, h_z_g9.far (by first | (dsimp only; omega) | (simp; done) | (simp; omega)) _, h_z_g10.far (by first | (dsimp only; omega) | (simp; done) | (simp; omega)) _, h_n.far (by first | (dsimp only; omega) | (simp; done) | (simp; omega)) _, h_z_g8.set _⟩) ?_
  clear h_o h_r h_u h_z_g7 h_z_g8 h_z_g9 h_z_g10 h_n hu0 f0 k0 ho1 ho2 ho3 ho4
  try simp only [Act.put, List.setIfInBounds_toArray, List.set_cons_zero, List.set_cons_succ]
  refine Way.move 34 (by rfl) (by kernel_rfl) (by rfl) (fun wA hS => ?_)
  obtain ⟨h_o, h_r, h_u, h_z_g7, h_z_g8, h_z_g9, h_z_g10, h_n, h_m⟩ := (S1_3D.out _).1 hS
  clear hS
  obtain ⟨u0, hu0⟩ := h_z_g9
  have f0 := hu0.frozen 0
  have k0 := hu0.cell 0
  simp at k0
  have h_z_g9 : BlkU wA g9 31 := ⟨u0, hu0⟩
  have ho1 := h_r.hrb
  have ho2 := h_r.hgp
  have ho3 := h_r.hgd
  have ho4 := HHI.out
  go_simp
  obtain ⟨S1_4, S1_4D⟩ : ∃ S : World → Prop, Go.RowKit.Hid (∀ w' : World, S w' ↔ ((Blk w' w.heap.size 37 #[.int .i64 kind, .int .i64 a, .int .i64 b, wv N, .int .i64 K, .string ⟨s.toArray⟩]) ∧ (RowS base hi w' rb gp cp gd cd xs xs P D) ∧ (Below w.heap.size w w') ∧ (BlkU w' g7 26) ∧ (BlkU w' g8 26) ∧ (BlkU w' g9 31) ∧ (BlkU w' g10 31) ∧ (Blk w' g7 26 #[.slice A1 n1 c1]) ∧ (Blk w' g8 26 #[.slice A2 n2 c2]) ∧ (Blk w' g9 31 #[.slice B1 m1 d1]))) := ⟨_, Lib.hid (fun _ => Iff.rfl)⟩
  refine Moved.keep S1_4 (fun W W' h hb => by obtain ⟨h_o, h_r, h_u, h_z_g7, h_z_g8, h_z_g9, h_z_g10, h_n, h_m, h_x⟩ := (S1_4D.out _).1 h; exact (S1_4D.out _).2 ⟨h_o.below hb h_o.lt, h_r.below hb, keepb h_u hb, h_z_g7.below hb, h_z_g8.below hb, h_z_g9.below hb, h_z_g10.below hb, h_n.below hb h_n.lt, h_m.below hb h_m.lt, h_x.below hb h_x.lt⟩) (fun W h => by obtain ⟨h_o, h_r, h_u, h_z_g7, h_z_g8, h_z_g9, h_z_g10, h_n, h_m, h_x⟩ := (S1_4D.out _).1 h; exact (S1_3D.out _).2 ⟨h_o, h_r, h_u, h_z_g7, h_z_g8, h_z_g9, h_z_g10, h_n, h_m⟩) ((S1_4D.out _).2 ⟨h_o.far (by first | (dsimp only; omega) | (simp; done) | (simp; omega)) _, h_r.farr (by first | (simp; omega) | omega) hu0 (by decide) (by decide) _, h_u.setCell (by first | (dsimp only; omega) | (simp; done) | (simp; omega)) _, h_z_g7.far (by first | (dsimp only; omega) | (simp; done) | (simp; omega)) _, h_z_g8.far (by first | (dsimp only; omega) | (simp; done) | (simp; omega)) _, ⟨_, h_z_g9.set _⟩, h_z_g10.far (by first | (dsimp only; omega) | (simp; done) | (simp; omega)) _, h_n.far (by first | (dsimp only; omega) | (simp; done) | (simp; omega)) _, h_m.far (by first | (dsimp only; omega) | (simp; done) | (simp; omega)) _, h_z_g9.set _⟩) ?_
  clear h_o h_r h_u h_z_g7 h_z_g8 h_z_g9 h_z_g10 h_n h_m hu0 f0 k0 ho1 ho2 ho3 ho4
  try simp only [Act.put, List.setIfInBounds_toArray, List.set_cons_zero, List.set_cons_succ]
  refine Way.move 35 (by rfl) (by kernel_rfl) (by rfl) (fun wA hS => ?_)
  obtain ⟨h_o, h_r, h_u, h_z_g7, h_z_g8, h_z_g9, h_z_g10, h_n, h_m, h_x⟩ := (S1_4D.out _).1 hS
  clear hS
  obtain ⟨u0, hu0⟩ := h_z_g10
  have f0 := hu0.frozen 0
  have k0 := hu0.cell 0
  simp at k0
  have h_z_g10 : BlkU wA g10 31 := ⟨u0, hu0⟩
  have ho1 := h_r.hrb
  have ho2 := h_r.hgp
  have ho3 := h_r.hgd
  have ho4 := HHI.out
  go_simp
  obtain ⟨S1_5, S1_5D⟩ : ∃ S : World → Prop, Go.RowKit.Hid (∀ w' : World, S w' ↔ ((Blk w' w.heap.size 37 #[.int .i64 kind, .int .i64 a, .int .i64 b, wv N, .int .i64 K, .string ⟨s.toArray⟩]) ∧ (RowS base hi w' rb gp cp gd cd xs xs P D) ∧ (Below w.heap.size w w') ∧ (BlkU w' g7 26) ∧ (BlkU w' g8 26) ∧ (BlkU w' g9 31) ∧ (BlkU w' g10 31) ∧ (Blk w' g7 26 #[.slice A1 n1 c1]) ∧ (Blk w' g8 26 #[.slice A2 n2 c2]) ∧ (Blk w' g9 31 #[.slice B1 m1 d1]) ∧ (Blk w' g10 31 #[.slice B2 m2 d2]))) := ⟨_, Lib.hid (fun _ => Iff.rfl)⟩
  refine Moved.keep S1_5 (fun W W' h hb => by obtain ⟨h_o, h_r, h_u, h_z_g7, h_z_g8, h_z_g9, h_z_g10, h_n, h_m, h_x, h_y⟩ := (S1_5D.out _).1 h; exact (S1_5D.out _).2 ⟨h_o.below hb h_o.lt, h_r.below hb, keepb h_u hb, h_z_g7.below hb, h_z_g8.below hb, h_z_g9.below hb, h_z_g10.below hb, h_n.below hb h_n.lt, h_m.below hb h_m.lt, h_x.below hb h_x.lt, h_y.below hb h_y.lt⟩) (fun W h => by obtain ⟨h_o, h_r, h_u, h_z_g7, h_z_g8, h_z_g9, h_z_g10, h_n, h_m, h_x, h_y⟩ := (S1_5D.out _).1 h; exact (S1_4D.out _).2 ⟨h_o, h_r, h_u, h_z_g7, h_z_g8, h_z_g9, h_z_g10, h_n, h_m, h_x⟩) ((S1_5D.out _).2 ⟨h_o.far (by first | (dsimp only; omega) | (simp; done) | (simp; omega)) _, h_r.farr (by first | (simp; omega) | omega) hu0 (by decide) (by decide) _, h_u.setCell (by first | (dsimp only; omega) | (simp; done) | (simp; omega)) _, h_z_g7.far (by first | (dsimp only; omega) | (simp; done) | (simp; omega)) _, h_z_g8.far (by first | (dsimp only; omega) | (simp; done) | (simp; omega)) _, h_z_g9.far (by first | (dsimp only; omega) | (simp; done) | (simp; omega)) _, ⟨_, h_z_g10.set _⟩, h_n.far (by first | (dsimp only; omega) | (simp; done) | (simp; omega)) _, h_m.far (by first | (dsimp only; omega) | (simp; done) | (simp; omega)) _, h_x.far (by first | (dsimp only; omega) | (simp; done) | (simp; omega)) _, h_z_g10.set _⟩) ?_
  clear h_o h_r h_u h_z_g7 h_z_g8 h_z_g9 h_z_g10 h_n h_m h_x hu0 f0 k0 ho1 ho2 ho3 ho4
  try simp only [Act.put, List.setIfInBounds_toArray, List.set_cons_zero, List.set_cons_succ]
  refine Way.done (by kernel_rfl) (fun v2 hS => ?_)
  obtain ⟨h_o, h_r, h_u, h_z_g7, h_z_g8, h_z_g9, h_z_g10, h_n, h_m, h_x, h_y⟩ := (S1_5D.out _).1 hS
  have H_o := Lib.hid h_o
  have H_r := Lib.hid h_r
  have H_u := Lib.hid h_u
  have H_z_g7 := Lib.hid h_z_g7
  have H_z_g8 := Lib.hid h_z_g8
  have H_z_g9 := Lib.hid h_z_g9
  have H_z_g10 := Lib.hid h_z_g10
  have H_n := Lib.hid h_n
  have H_m := Lib.hid h_m
  have H_x := Lib.hid h_x
  have H_y := Lib.hid h_y
  clear hS h_o h_r h_u h_z_g7 h_z_g8 h_z_g9 h_z_g10 h_n h_m h_x h_y
  clear H_z_g7 H_z_g8 H_z_g9 H_z_g10 HPA HPB q1 q2 n_g7_g8 n_g7_g9 n_g7_g10 n_g8_g9 n_g8_g10 n_g9_g10
  rcases hkind with rfl | rfl | rfl | rfl | rfl | rfl | rfl
  · have HOPN := Lib.hid (fun W (hb : Below w.heap.size w W) => (add_nat _ _ x y W (HN1.out W hb) (HN2.out W hb) (by have := HX.out; rw [HMM.out] at this; omega) (by have := HYY.out; rw [HMM.out] at this; omega)).mono (fun e w' h => NatB.ans h HMM.out))
    have HREF := Lib.hid (fun W (hb : Below w.heap.size w W) => rplus_nat _ _ x y Y W (HR1.out W hb) (HR2.out W hb) (two_b4 HX.out HYY.out HMM.out HM4.out HY.out).1 (two_b4 HX.out HYY.out HMM.out HM4.out HY.out).2.1 (by have := HY.out; omega))
    have HOV := Lib.hid (fun v W (h : RatW W v (x + y)) => rover_nat v (x + y) Y M Z W h (two_b4 HX.out HYY.out HMM.out HM4.out HY.out).2.2.1 (by have := HY.out; omega) HMM.out HZ.out)
    obtain ⟨X, hX⟩ : ∃ X, x + y = X := ⟨_, rfl⟩
    rw [hX] at HOV HOPN HREF
    obtain ⟨G, hG⟩ : ∃ G, overB X M = G := ⟨_, rfl⟩
    rw [hG] at HOV HOPN
    have HLS := Lib.hid (fun W => less_any (!G) 11 W)
    obtain ⟨no, hno⟩ : ∃ no, lessV (!G) 11 = no := ⟨_, rfl⟩
    rw [hno] at HLS HOPN
    clear hX hG hno
    have fk := H_o.out.cell 0
    simp only [List.getElem?_toArray, List.getElem?_cons_zero, List.getElem?_cons_succ] at fk
    have fn := H_n.out.cell 0
    simp only [List.getElem?_toArray, List.getElem?_cons_zero, List.getElem?_cons_succ] at fn
    have fm := H_m.out.cell 0
    simp only [List.getElem?_toArray, List.getElem?_cons_zero, List.getElem?_cons_succ] at fm
    go_wp2_with fail
    refine (HOPN.out _ H_u.out).mono ?_
    rintro e w1 ⟨A3, n3, c3, er, rfl, ha, hb⟩
    clear fk fn fm
    have K_o := Lib.hid (show Blk w1 w.heap.size 37 #[.int .i64 3, .int .i64 a, .int .i64 b, wv N, .int .i64 K, .string ⟨s.toArray⟩] from H_o.out.below hb H_o.out.lt)
    have K_r := Lib.hid (show RowS base hi w1 rb gp cp gd cd xs xs P D from H_r.out.below hb)
    have K_u := Lib.hid (show Below w.heap.size w w1 from keepb H_u.out hb)
    have K_n := Lib.hid (show Blk w1 g7 26 #[.slice A1 n1 c1] from H_n.out.below hb H_n.out.lt)
    have K_m := Lib.hid (show Blk w1 g8 26 #[.slice A2 n2 c2] from H_m.out.below hb H_m.out.lt)
    have K_x := Lib.hid (show Blk w1 g9 31 #[.slice B1 m1 d1] from H_x.out.below hb H_x.out.lt)
    have K_y := Lib.hid (show Blk w1 g10 31 #[.slice B2 m2 d2] from H_y.out.below hb H_y.out.lt)
    have K_p := Lib.hid (show Ans X no w1 A3 n3 c3 er from ha)
    clear hb H_o H_r H_u H_n H_m H_x H_y
    clear ha
    go_upto_region 6 with fail
    obtain ⟨V1, hV1⟩ : ∃ V, (w1.alloc (.cells #[.slice A3 n3 c3] 26)) = V := ⟨_, rfl⟩
    have hbn : Below w1.heap.size w1 V1 := by rw [← hV1]; go_grown
    have H_o := Lib.hid (show Blk V1 w.heap.size 37 #[.int .i64 3, .int .i64 a, .int .i64 b, wv N, .int .i64 K, .string ⟨s.toArray⟩] from K_o.out.below hbn K_o.out.lt)
    have H_r := Lib.hid (show RowS base hi V1 rb gp cp gd cd xs xs P D from K_r.out.below hbn)
    have H_u := Lib.hid (show Below w.heap.size w V1 from keepb K_u.out hbn)
    have H_n := Lib.hid (show Blk V1 g7 26 #[.slice A1 n1 c1] from K_n.out.below hbn K_n.out.lt)
    have H_m := Lib.hid (show Blk V1 g8 26 #[.slice A2 n2 c2] from K_m.out.below hbn K_m.out.lt)
    have H_x := Lib.hid (show Blk V1 g9 31 #[.slice B1 m1 d1] from K_x.out.below hbn K_x.out.lt)
    have H_y := Lib.hid (show Blk V1 g10 31 #[.slice B2 m2 d2] from K_y.out.below hbn K_y.out.lt)
    have H_p := Lib.hid (show Ans X no V1 A3 n3 c3 er from K_p.out.below hbn)
    have B_s := Lib.hid (show Blk V1 w1.heap.size 26 #[.slice A3 n3 c3] from by rw [← hV1]; exact Blk.new w1 26 #[.slice A3 n3 c3])
    obtain ⟨g1, hg1⟩ : ∃ g, w1.heap.size = g := ⟨_, rfl⟩
    simp only [hV1, hg1] at B_s ⊢
    have H_s := B_s
    clear hV1 hg1 hbn K_o K_r K_u K_n K_m K_x K_y K_p B_s
    have fx := H_x.out.cell 0
    simp only [List.getElem?_toArray, List.getElem?_cons_zero, List.getElem?_cons_succ] at fx
    have fy := H_y.out.cell 0
    simp only [List.getElem?_toArray, List.getElem?_cons_zero, List.getElem?_cons_succ] at fy
    go_wp2_with fail
    refine (HREF.out _ H_u.out).mono ?_
    rintro e w2 ⟨A4, n4, c4, rfl, hl, hb⟩
    clear fx fy
    have K_o := Lib.hid (show Blk w2 w.heap.size 37 #[.int .i64 3, .int .i64 a, .int .i64 b, wv N, .int .i64 K, .string ⟨s.toArray⟩] from H_o.out.below hb H_o.out.lt)
    have K_r := Lib.hid (show RowS base hi w2 rb gp cp gd cd xs xs P D from H_r.out.below hb)
    have K_u := Lib.hid (show Below w.heap.size w w2 from keepb H_u.out hb)
    have K_n := Lib.hid (show Blk w2 g7 26 #[.slice A1 n1 c1] from H_n.out.below hb H_n.out.lt)
    have K_m := Lib.hid (show Blk w2 g8 26 #[.slice A2 n2 c2] from H_m.out.below hb H_m.out.lt)
    have K_x := Lib.hid (show Blk w2 g9 31 #[.slice B1 m1 d1] from H_x.out.below hb H_x.out.lt)
    have K_y := Lib.hid (show Blk w2 g10 31 #[.slice B2 m2 d2] from H_y.out.below hb H_y.out.lt)
    have K_p := Lib.hid (show Ans X no w2 A3 n3 c3 er from H_p.out.below hb)
    have K_s := Lib.hid (show Blk w2 g1 26 #[.slice A3 n3 c3] from H_s.out.below hb H_s.out.lt)
    have K_d := Lib.hid (show RatL w2 A4 n4 c4 X from hl)
    clear hb H_o H_r H_u H_n H_m H_x H_y H_p H_s
    clear hl
    go_upto_region 7 with fail
    obtain ⟨V2, hV2⟩ : ∃ V, (w2.alloc (.cells #[.slice A4 n4 c4] 31)) = V := ⟨_, rfl⟩
    have hbn : Below w2.heap.size w2 V2 := by rw [← hV2]; go_grown
    have H_o := Lib.hid (show Blk V2 w.heap.size 37 #[.int .i64 3, .int .i64 a, .int .i64 b, wv N, .int .i64 K, .string ⟨s.toArray⟩] from K_o.out.below hbn K_o.out.lt)
    have H_r := Lib.hid (show RowS base hi V2 rb gp cp gd cd xs xs P D from K_r.out.below hbn)
    have H_u := Lib.hid (show Below w.heap.size w V2 from keepb K_u.out hbn)
    have H_n := Lib.hid (show Blk V2 g7 26 #[.slice A1 n1 c1] from K_n.out.below hbn K_n.out.lt)
    have H_m := Lib.hid (show Blk V2 g8 26 #[.slice A2 n2 c2] from K_m.out.below hbn K_m.out.lt)
    have H_x := Lib.hid (show Blk V2 g9 31 #[.slice B1 m1 d1] from K_x.out.below hbn K_x.out.lt)
    have H_y := Lib.hid (show Blk V2 g10 31 #[.slice B2 m2 d2] from K_y.out.below hbn K_y.out.lt)
    have H_p := Lib.hid (show Ans X no V2 A3 n3 c3 er from K_p.out.below hbn)
    have H_s := Lib.hid (show Blk V2 g1 26 #[.slice A3 n3 c3] from K_s.out.below hbn K_s.out.lt)
    have H_d := Lib.hid (show RatL V2 A4 n4 c4 X from K_d.out.below hbn)
    have B_t := Lib.hid (show Blk V2 w2.heap.size 31 #[.slice A4 n4 c4] from by rw [← hV2]; exact Blk.new w2 31 #[.slice A4 n4 c4])
    obtain ⟨g2, hg2⟩ : ∃ g, w2.heap.size = g := ⟨_, rfl⟩
    simp only [hV2, hg2] at B_t ⊢
    have H_t := B_t
    clear hV2 hg2 hbn K_o K_r K_u K_n K_m K_x K_y K_p K_s K_d B_t
    obtain ⟨S2_0, S2_0D⟩ : ∃ S : World → Prop, Go.RowKit.Hid (∀ w' : World, S w' ↔ ((Blk w' w.heap.size 37 #[.int .i64 3, .int .i64 a, .int .i64 b, wv N, .int .i64 K, .string ⟨s.toArray⟩]) ∧ (RowS base hi w' rb gp cp gd cd xs xs P D) ∧ (Below w.heap.size w w') ∧ (Blk w' g7 26 #[.slice A1 n1 c1]) ∧ (Blk w' g8 26 #[.slice A2 n2 c2]) ∧ (Blk w' g9 31 #[.slice B1 m1 d1]) ∧ (Blk w' g10 31 #[.slice B2 m2 d2]) ∧ (Ans X no w' A3 n3 c3 er) ∧ (Blk w' g1 26 #[.slice A3 n3 c3]) ∧ (RatL w' A4 n4 c4 X) ∧ (Blk w' g2 31 #[.slice A4 n4 c4]))) := ⟨_, Lib.hid (fun _ => Iff.rfl)⟩
    refine wp_region_way (S := S2_0) (by kernel_rfl) (by kernel_rfl) (fun W W' h hb => by obtain ⟨h_o, h_r, h_u, h_n, h_m, h_x, h_y, h_p, h_s, h_d, h_t⟩ := (S2_0D.out _).1 h; exact (S2_0D.out _).2 ⟨h_o.below hb h_o.lt, h_r.below hb, keepb h_u hb, h_n.below hb h_n.lt, h_m.below hb h_m.lt, h_x.below hb h_x.lt, h_y.below hb h_y.lt, h_p.below hb, h_s.below hb h_s.lt, h_d.below hb, h_t.below hb h_t.lt⟩) ((S2_0D.out _).2 ⟨H_o.out.below (Below.refl V2.heap.size V2).drew H_o.out.lt, H_r.out.below (Below.refl V2.heap.size V2).drew, keepb H_u.out (Below.refl V2.heap.size V2).drew, H_n.out.below (Below.refl V2.heap.size V2).drew H_n.out.lt, H_m.out.below (Below.refl V2.heap.size V2).drew H_m.out.lt, H_x.out.below (Below.refl V2.heap.size V2).drew H_x.out.lt, H_y.out.below (Below.refl V2.heap.size V2).drew H_y.out.lt, H_p.out.below (Below.refl V2.heap.size V2).drew, H_s.out.below (Below.refl V2.heap.size V2).drew H_s.out.lt, H_d.out.below (Below.refl V2.heap.size V2).drew, H_t.out.below (Below.refl V2.heap.size V2).drew H_t.out.lt⟩) ?_
    first
      | (refine Way.no 0 (by rfl) (by kernel_rfl) (by rfl) ?_; simp only [Act.put, List.setIfInBounds_toArray, List.set_cons_zero, List.set_cons_succ])
      | (refine' Way.yes 0 (by rfl) (by kernel_rfl) (by rfl) (fun wS hS => ?_) ?_
         rotate_left
         · obtain ⟨h_o, h_r, h_u, h_n, h_m, h_x, h_y, h_p, h_s, h_d, h_t⟩ := (S2_0D.out _).1 hS
           have cs := h_s.cell 0
           have ct := h_t.cell 0
           simp at cs ct
           go_simp
           first
             | exact ⟨rfl, Below.refl _ _⟩
         simp only [Act.put, List.setIfInBounds_toArray, List.set_cons_zero, List.set_cons_succ])
    first
      | (refine Way.no 1 (by rfl) (by kernel_rfl) (by rfl) ?_; simp only [Act.put, List.setIfInBounds_toArray, List.set_cons_zero, List.set_cons_succ])
      | (refine' Way.yes 1 (by rfl) (by kernel_rfl) (by rfl) (fun wS hS => ?_) ?_
         rotate_left
         · obtain ⟨h_o, h_r, h_u, h_n, h_m, h_x, h_y, h_p, h_s, h_d, h_t⟩ := (S2_0D.out _).1 hS
           have cs := h_s.cell 0
           have ct := h_t.cell 0
           simp at cs ct
           go_simp
           first
             | exact ⟨rfl, Below.refl _ _⟩
         simp only [Act.put, List.setIfInBounds_toArray, List.set_cons_zero, List.set_cons_succ])
    first
      | (refine Way.no 2 (by rfl) (by kernel_rfl) (by rfl) ?_; simp only [Act.put, List.setIfInBounds_toArray, List.set_cons_zero, List.set_cons_succ])
      | (refine' Way.yes 2 (by rfl) (by kernel_rfl) (by rfl) (fun wS hS => ?_) ?_
         rotate_left
         · obtain ⟨h_o, h_r, h_u, h_n, h_m, h_x, h_y, h_p, h_s, h_d, h_t⟩ := (S2_0D.out _).1 hS
           have cs := h_s.cell 0
           have ct := h_t.cell 0
           simp at cs ct
           go_simp
           first
             | exact ⟨rfl, Below.refl _ _⟩
         simp only [Act.put, List.setIfInBounds_toArray, List.set_cons_zero, List.set_cons_succ])
    first
      | (refine Way.no 3 (by rfl) (by kernel_rfl) (by rfl) ?_; simp only [Act.put, List.setIfInBounds_toArray, List.set_cons_zero, List.set_cons_succ])
      | (refine' Way.yes 3 (by rfl) (by kernel_rfl) (by rfl) (fun wS hS => ?_) ?_
         rotate_left
         · obtain ⟨h_o, h_r, h_u, h_n, h_m, h_x, h_y, h_p, h_s, h_d, h_t⟩ := (S2_0D.out _).1 hS
           have cs := h_s.cell 0
           have ct := h_t.cell 0
           simp at cs ct
           go_simp
           first
             | exact ⟨rfl, Below.refl _ _⟩
         simp only [Act.put, List.setIfInBounds_toArray, List.set_cons_zero, List.set_cons_succ])
    first
      | (refine Way.no 4 (by rfl) (by kernel_rfl) (by rfl) ?_; simp only [Act.put, List.setIfInBounds_toArray, List.set_cons_zero, List.set_cons_succ])
      | (refine' Way.yes 4 (by rfl) (by kernel_rfl) (by rfl) (fun wS hS => ?_) ?_
         rotate_left
         · obtain ⟨h_o, h_r, h_u, h_n, h_m, h_x, h_y, h_p, h_s, h_d, h_t⟩ := (S2_0D.out _).1 hS
           have cs := h_s.cell 0
           have ct := h_t.cell 0
           simp at cs ct
           go_simp
           first
             | exact ⟨rfl, Below.refl _ _⟩
         simp only [Act.put, List.setIfInBounds_toArray, List.set_cons_zero, List.set_cons_succ])
    refine' Way.yes (v := .bool G) 5 (by rfl) (by kernel_rfl) (by rfl) (fun wS hS => ?_) ?_
    · obtain ⟨h_o, h_r, h_u, h_n, h_m, h_x, h_y, h_p, h_s, h_d, h_t⟩ := (S2_0D.out _).1 hS
      go_simp
      exact (HOV.out _ _ h_d.w).mono fun e w2 h => h
    simp only [Act.put, List.setIfInBounds_toArray, List.set_cons_zero, List.set_cons_succ]
    first
      | (refine Way.no 6 (by rfl) (by kernel_rfl) (by rfl) ?_; simp only [Act.put, List.setIfInBounds_toArray, List.set_cons_zero, List.set_cons_succ])
      | (refine' Way.yes 6 (by rfl) (by kernel_rfl) (by rfl) (fun wS hS => ?_) ?_
         rotate_left
         · obtain ⟨h_o, h_r, h_u, h_n, h_m, h_x, h_y, h_p, h_s, h_d, h_t⟩ := (S2_0D.out _).1 hS
           go_simp
           first
             | exact ⟨rfl, Below.refl _ _⟩
         simp only [Act.put, List.setIfInBounds_toArray, List.set_cons_zero, List.set_cons_succ])
    refine' Way.yes (v := .int .i64 no) 7 (by rfl) (by kernel_rfl) (by rfl) (fun wS hS => ?_) ?_
    · obtain ⟨h_o, h_r, h_u, h_n, h_m, h_x, h_y, h_p, h_s, h_d, h_t⟩ := (S2_0D.out _).1 hS
      go_simp
      exact (HLS.out _).mono fun e w2 h => h
    simp only [Act.put, List.setIfInBounds_toArray, List.set_cons_zero, List.set_cons_succ]
    refine Way.move 8 (by rfl) (by kernel_rfl) (by rfl) (fun wA hS => ?_)
    obtain ⟨h_o, h_r, h_u, h_n, h_m, h_x, h_y, h_p, h_s, h_d, h_t⟩ := (S2_0D.out _).1 hS
    clear hS
    go_simp
    refine (HPUT.out X no A3 A4 n3 c3 n4 c4 er _ ⟨_, _, _, _, _, _, h_r⟩ h_p (fun _ => h_d)).mono ?_
    rintro e wN ⟨rfl, hz, _, hbe⟩
    refine ⟨_, rfl, ?_⟩
    obtain ⟨S2_1, S2_1D⟩ : ∃ S : World → Prop, Go.RowKit.Hid (∀ w' : World, S w' ↔ ((∃ h2 ys, xs.length ≤ ys.length ∧ ys.length ≤ xs.length + 1 ∧ Row base h2 w' rb ys) ∧ (Below base w w' ∧ base ≤ w'.heap.size))) := ⟨_, Lib.hid (fun _ => Iff.rfl)⟩
    refine Moved.turn S2_1 (fun W W' h hb => by obtain ⟨h_z, h_e⟩ := (S2_1D.out _).1 h; exact (S2_1D.out _).2 ⟨(by obtain ⟨h2, ys, h3, h4, h5⟩ := h_z; exact ⟨h2, ys, h3, h4, h5.below hb⟩), ⟨h_e.1.trans (hb.mono h_e.2), Nat.le_trans h_e.2 hb.size⟩⟩) (by kernel_rfl) ((S2_1D.out _).2 ⟨hz, ⟨(h_u.mono HBL.out).trans hbe, by obtain ⟨_, _, _, _, h⟩ := hz; exact h.base_le⟩⟩) ?_
    clear h_o h_r h_u h_n h_m h_x h_y h_p h_s h_d h_t
    try simp only [Act.put, List.setIfInBounds_toArray, List.set_cons_zero, List.set_cons_succ]
    clear hz hbe
    first
      | (refine Way.no 9 (by rfl) (by kernel_rfl) (by rfl) ?_; simp only [Act.put, List.setIfInBounds_toArray, List.set_cons_zero, List.set_cons_succ])
      | (refine' Way.yes 9 (by rfl) (by kernel_rfl) (by rfl) (fun wS hS => ?_) ?_
         rotate_left
         · obtain ⟨h_z, h_e⟩ := (S2_1D.out _).1 hS
           go_simp
           first
             | exact ⟨rfl, Below.refl _ _⟩
         simp only [Act.put, List.setIfInBounds_toArray, List.set_cons_zero, List.set_cons_succ])
    refine Way.done (by kernel_rfl) (fun wE hS => ?_)
    obtain ⟨h_z, h_e⟩ := (S2_1D.out _).1 hS
    have H_z := Lib.hid h_z
    have H_e := Lib.hid h_e
    clear hS h_z h_e
    go_wp2_with fail
    go_ret
    obtain ⟨h2, ys, h3, h4, h5⟩ := H_z.out
    exact ⟨rfl, ⟨h2, ys, h3, by omega, h5⟩, H_e.out.1⟩
  · have HAG := Lib.hid (fun W (hb : Below w.heap.size w W) => ragainst_v HZ.out _ _ x y W (HR1.out W hb) (HR2.out W hb) (b4_up (two_b4 HX.out HYY.out HMM.out HM4.out HY.out).1 (by have := HY.out; have := HZ.out; omega)) (b4_up (two_b4 HX.out HYY.out HMM.out HM4.out HY.out).2.1 (by have := HY.out; have := HZ.out; omega)))
    have HSB := Lib.hid (fun W (hb : Below w.heap.size w W) => sub_nat _ _ x y W (HN1.out W hb) (HN2.out W hb) (by have := HX.out; rw [HMM.out] at this; omega) (by have := HYY.out; rw [HMM.out] at this; omega))
    by_cases hlt : x < y
    · have HS1 := Lib.hid (fun W hb => (HSB.out W hb).mono (fun e w' h => NatS.ansF h hlt))
      have tlt : decide (cmpI x y < 0) = true := (cmpI_neg x y).trans (decide_eq_true hlt)
      clear hlt HSB
      have fk := H_o.out.cell 0
      simp only [List.getElem?_toArray, List.getElem?_cons_zero, List.getElem?_cons_succ] at fk
      have fn := H_n.out.cell 0
      simp only [List.getElem?_toArray, List.getElem?_cons_zero, List.getElem?_cons_succ] at fn
      have fm := H_m.out.cell 0
      simp only [List.getElem?_toArray, List.getElem?_cons_zero, List.getElem?_cons_succ] at fm
      go_wp2_with fail
      refine (HS1.out _ H_u.out).mono ?_
      rintro e w1 ⟨rfl, hb⟩
      clear fk fn fm
      have K_o := Lib.hid (show Blk w1 w.heap.size 37 #[.int .i64 4, .int .i64 a, .int .i64 b, wv N, .int .i64 K, .string ⟨s.toArray⟩] from H_o.out.below hb H_o.out.lt)
      have K_r := Lib.hid (show RowS base hi w1 rb gp cp gd cd xs xs P D from H_r.out.below hb)
      have K_u := Lib.hid (show Below w.heap.size w w1 from keepb H_u.out hb)
      have K_n := Lib.hid (show Blk w1 g7 26 #[.slice A1 n1 c1] from H_n.out.below hb H_n.out.lt)
      have K_m := Lib.hid (show Blk w1 g8 26 #[.slice A2 n2 c2] from H_m.out.below hb H_m.out.lt)
      have K_x := Lib.hid (show Blk w1 g9 31 #[.slice B1 m1 d1] from H_x.out.below hb H_x.out.lt)
      have K_y := Lib.hid (show Blk w1 g10 31 #[.slice B2 m2 d2] from H_y.out.below hb H_y.out.lt)
      clear hb H_o H_r H_u H_n H_m H_x H_y
      go_upto_region 10 with fail
      obtain ⟨V1, hV1⟩ : ∃ V, (w1.alloc (.cells #[.slice none 0 0] 26)) = V := ⟨_, rfl⟩
      have hbn : Below w1.heap.size w1 V1 := by rw [← hV1]; go_grown
      have H_o := Lib.hid (show Blk V1 w.heap.size 37 #[.int .i64 4, .int .i64 a, .int .i64 b, wv N, .int .i64 K, .string ⟨s.toArray⟩] from K_o.out.below hbn K_o.out.lt)
      have H_r := Lib.hid (show RowS base hi V1 rb gp cp gd cd xs xs P D from K_r.out.below hbn)
      have H_u := Lib.hid (show Below w.heap.size w V1 from keepb K_u.out hbn)
      have H_n := Lib.hid (show Blk V1 g7 26 #[.slice A1 n1 c1] from K_n.out.below hbn K_n.out.lt)
      have H_m := Lib.hid (show Blk V1 g8 26 #[.slice A2 n2 c2] from K_m.out.below hbn K_m.out.lt)
      have H_x := Lib.hid (show Blk V1 g9 31 #[.slice B1 m1 d1] from K_x.out.below hbn K_x.out.lt)
      have H_y := Lib.hid (show Blk V1 g10 31 #[.slice B2 m2 d2] from K_y.out.below hbn K_y.out.lt)
      have B_s := Lib.hid (show Blk V1 w1.heap.size 26 #[.slice none 0 0] from by rw [← hV1]; exact Blk.new w1 26 #[.slice none 0 0])
      obtain ⟨g1, hg1⟩ : ∃ g, w1.heap.size = g := ⟨_, rfl⟩
      simp only [hV1, hg1] at B_s ⊢
      have H_s := B_s
      clear hV1 hg1 hbn K_o K_r K_u K_n K_m K_x K_y B_s
      have fx := H_x.out.cell 0
      simp only [List.getElem?_toArray, List.getElem?_cons_zero, List.getElem?_cons_succ] at fx
      have fy := H_y.out.cell 0
      simp only [List.getElem?_toArray, List.getElem?_cons_zero, List.getElem?_cons_succ] at fy
      go_wp2_with fail
      refine (HAG.out _ H_u.out).mono ?_
      rintro e w2 ⟨rfl, hb⟩
      clear fx fy
      have K_o := Lib.hid (show Blk w2 w.heap.size 37 #[.int .i64 4, .int .i64 a, .int .i64 b, wv N, .int .i64 K, .string ⟨s.toArray⟩] from H_o.out.below hb H_o.out.lt)
      have K_r := Lib.hid (show RowS base hi w2 rb gp cp gd cd xs xs P D from H_r.out.below hb)
      have K_u := Lib.hid (show Below w.heap.size w w2 from keepb H_u.out hb)
      have K_n := Lib.hid (show Blk w2 g7 26 #[.slice A1 n1 c1] from H_n.out.below hb H_n.out.lt)
      have K_m := Lib.hid (show Blk w2 g8 26 #[.slice A2 n2 c2] from H_m.out.below hb H_m.out.lt)
      have K_x := Lib.hid (show Blk w2 g9 31 #[.slice B1 m1 d1] from H_x.out.below hb H_x.out.lt)
      have K_y := Lib.hid (show Blk w2 g10 31 #[.slice B2 m2 d2] from H_y.out.below hb H_y.out.lt)
      have K_s := Lib.hid (show Blk w2 g1 26 #[.slice none 0 0] from H_s.out.below hb H_s.out.lt)
      clear hb H_o H_r H_u H_n H_m H_x H_y H_s
      have H_o := K_o
      have H_r := K_r
      have H_u := K_u
      have H_n := K_n
      have H_m := K_m
      have H_x := K_x
      have H_y := K_y
      have H_s := K_s
      clear K_o K_r K_u K_n K_m K_x K_y K_s
      have fs := H_s.out.cell 0
      simp only [List.getElem?_toArray, List.getElem?_cons_zero, List.getElem?_cons_succ] at fs
      go_wp2_with fail
      refine (HPUT.out 0 12 none none 0 0 0 0 (enoV 12) _ ⟨_, _, _, _, _, _, H_r.out⟩ (.inr ⟨by decide, rfl, rfl, rfl, rfl⟩) (fun h => absurd h (by decide))).mono ?_
      rintro e wN ⟨rfl, hz, _, hbe⟩
      have H_z := Lib.hid hz
      have H_b := Lib.hid hbe
      clear fs
      clear hz hbe
      go_wp2_with fail
      go_ret
      obtain ⟨h2, ys, h3, h4, h5⟩ := H_z.out
      exact ⟨rfl, ⟨h2, ys, h3, by omega, h5⟩, (H_u.out.mono HBL.out).trans H_b.out⟩
    · have hge := Nat.not_lt.1 hlt
      have HS1 := Lib.hid (fun W hb => (HSB.out W hb).mono (fun e w' h => NatS.ansE h hge (by have := HX.out; rw [HMM.out] at this; exact this)))
      have tlt : decide (cmpI x y < 0) = false := (cmpI_neg x y).trans (decide_eq_false hlt)
      have HLE := Lib.hid (fun W (hb : Below w.heap.size w W) => rless_nat _ _ x y Y W (HR1.out W hb) (HR2.out W hb) (two_b4 HX.out HYY.out HMM.out HM4.out HY.out).1 (two_b4 HX.out HYY.out HMM.out HM4.out HY.out).2.1 (by have := HY.out; omega) hge)
      clear hlt hge HSB
      have fk := H_o.out.cell 0
      simp only [List.getElem?_toArray, List.getElem?_cons_zero, List.getElem?_cons_succ] at fk
      have fn := H_n.out.cell 0
      simp only [List.getElem?_toArray, List.getElem?_cons_zero, List.getElem?_cons_succ] at fn
      have fm := H_m.out.cell 0
      simp only [List.getElem?_toArray, List.getElem?_cons_zero, List.getElem?_cons_succ] at fm
      go_wp2_with fail
      refine (HS1.out _ H_u.out).mono ?_
      rintro e w1 ⟨A3, n3, c3, er, rfl, ha, hb⟩
      clear fk fn fm
      have K_o := Lib.hid (show Blk w1 w.heap.size 37 #[.int .i64 4, .int .i64 a, .int .i64 b, wv N, .int .i64 K, .string ⟨s.toArray⟩] from H_o.out.below hb H_o.out.lt)
      have K_r := Lib.hid (show RowS base hi w1 rb gp cp gd cd xs xs P D from H_r.out.below hb)
      have K_u := Lib.hid (show Below w.heap.size w w1 from keepb H_u.out hb)
      have K_n := Lib.hid (show Blk w1 g7 26 #[.slice A1 n1 c1] from H_n.out.below hb H_n.out.lt)
      have K_m := Lib.hid (show Blk w1 g8 26 #[.slice A2 n2 c2] from H_m.out.below hb H_m.out.lt)
      have K_x := Lib.hid (show Blk w1 g9 31 #[.slice B1 m1 d1] from H_x.out.below hb H_x.out.lt)
      have K_y := Lib.hid (show Blk w1 g10 31 #[.slice B2 m2 d2] from H_y.out.below hb H_y.out.lt)
      have K_p := Lib.hid (show Ans (x - y) 0 w1 A3 n3 c3 er from ha)
      clear hb H_o H_r H_u H_n H_m H_x H_y
      clear ha
      go_upto_region 10 with fail
      obtain ⟨V1, hV1⟩ : ∃ V, (w1.alloc (.cells #[.slice A3 n3 c3] 26)) = V := ⟨_, rfl⟩
      have hbn : Below w1.heap.size w1 V1 := by rw [← hV1]; go_grown
      have H_o := Lib.hid (show Blk V1 w.heap.size 37 #[.int .i64 4, .int .i64 a, .int .i64 b, wv N, .int .i64 K, .string ⟨s.toArray⟩] from K_o.out.below hbn K_o.out.lt)
      have H_r := Lib.hid (show RowS base hi V1 rb gp cp gd cd xs xs P D from K_r.out.below hbn)
      have H_u := Lib.hid (show Below w.heap.size w V1 from keepb K_u.out hbn)
      have H_n := Lib.hid (show Blk V1 g7 26 #[.slice A1 n1 c1] from K_n.out.below hbn K_n.out.lt)
      have H_m := Lib.hid (show Blk V1 g8 26 #[.slice A2 n2 c2] from K_m.out.below hbn K_m.out.lt)
      have H_x := Lib.hid (show Blk V1 g9 31 #[.slice B1 m1 d1] from K_x.out.below hbn K_x.out.lt)
      have H_y := Lib.hid (show Blk V1 g10 31 #[.slice B2 m2 d2] from K_y.out.below hbn K_y.out.lt)
      have H_p := Lib.hid (show Ans (x - y) 0 V1 A3 n3 c3 er from K_p.out.below hbn)
      have B_s := Lib.hid (show Blk V1 w1.heap.size 26 #[.slice A3 n3 c3] from by rw [← hV1]; exact Blk.new w1 26 #[.slice A3 n3 c3])
      obtain ⟨g1, hg1⟩ : ∃ g, w1.heap.size = g := ⟨_, rfl⟩
      simp only [hV1, hg1] at B_s ⊢
      have H_s := B_s
      clear hV1 hg1 hbn K_o K_r K_u K_n K_m K_x K_y K_p B_s
      have fx := H_x.out.cell 0
      simp only [List.getElem?_toArray, List.getElem?_cons_zero, List.getElem?_cons_succ] at fx
      have fy := H_y.out.cell 0
      simp only [List.getElem?_toArray, List.getElem?_cons_zero, List.getElem?_cons_succ] at fy
      go_wp2_with fail
      refine (HAG.out _ H_u.out).mono ?_
      rintro e w2 ⟨rfl, hb⟩
      clear fx fy
      have K_o := Lib.hid (show Blk w2 w.heap.size 37 #[.int .i64 4, .int .i64 a, .int .i64 b, wv N, .int .i64 K, .string ⟨s.toArray⟩] from H_o.out.below hb H_o.out.lt)
      have K_r := Lib.hid (show RowS base hi w2 rb gp cp gd cd xs xs P D from H_r.out.below hb)
      have K_u := Lib.hid (show Below w.heap.size w w2 from keepb H_u.out hb)
      have K_n := Lib.hid (show Blk w2 g7 26 #[.slice A1 n1 c1] from H_n.out.below hb H_n.out.lt)
      have K_m := Lib.hid (show Blk w2 g8 26 #[.slice A2 n2 c2] from H_m.out.below hb H_m.out.lt)
      have K_x := Lib.hid (show Blk w2 g9 31 #[.slice B1 m1 d1] from H_x.out.below hb H_x.out.lt)
      have K_y := Lib.hid (show Blk w2 g10 31 #[.slice B2 m2 d2] from H_y.out.below hb H_y.out.lt)
      have K_p := Lib.hid (show Ans (x - y) 0 w2 A3 n3 c3 er from H_p.out.below hb)
      have K_s := Lib.hid (show Blk w2 g1 26 #[.slice A3 n3 c3] from H_s.out.below hb H_s.out.lt)
      clear hb H_o H_r H_u H_n H_m H_x H_y H_p H_s
      go_upto_region 12 with fail
      have H_o := K_o
      have H_r := K_r
      have H_u := K_u
      have H_n := K_n
      have H_m := K_m
      have H_x := K_x
      have H_y := K_y
      have H_p := K_p
      have H_s := K_s
      clear K_o K_r K_u K_n K_m K_x K_y K_p K_s
      obtain ⟨S3_0, S3_0D⟩ : ∃ S : World → Prop, Go.RowKit.Hid (∀ w' : World, S w' ↔ ((Blk w' w.heap.size 37 #[.int .i64 4, .int .i64 a, .int .i64 b, wv N, .int .i64 K, .string ⟨s.toArray⟩]) ∧ (RowS base hi w' rb gp cp gd cd xs xs P D) ∧ (Below w.heap.size w w') ∧ (Blk w' g7 26 #[.slice A1 n1 c1]) ∧ (Blk w' g8 26 #[.slice A2 n2 c2]) ∧ (Blk w' g9 31 #[.slice B1 m1 d1]) ∧ (Blk w' g10 31 #[.slice B2 m2 d2]) ∧ (Ans (x - y) 0 w' A3 n3 c3 er) ∧ (Blk w' g1 26 #[.slice A3 n3 c3]))) := ⟨_, Lib.hid (fun _ => Iff.rfl)⟩
      refine wp_region_way (S := S3_0) (by kernel_rfl) (by kernel_rfl) (fun W W' h hb => by obtain ⟨h_o, h_r, h_u, h_n, h_m, h_x, h_y, h_p, h_s⟩ := (S3_0D.out _).1 h; exact (S3_0D.out _).2 ⟨h_o.below hb h_o.lt, h_r.below hb, keepb h_u hb, h_n.below hb h_n.lt, h_m.below hb h_m.lt, h_x.below hb h_x.lt, h_y.below hb h_y.lt, h_p.below hb, h_s.below hb h_s.lt⟩) ((S3_0D.out _).2 ⟨H_o.out.below (Below.refl w2.heap.size w2).drew H_o.out.lt, H_r.out.below (Below.refl w2.heap.size w2).drew, keepb H_u.out (Below.refl w2.heap.size w2).drew, H_n.out.below (Below.refl w2.heap.size w2).drew H_n.out.lt, H_m.out.below (Below.refl w2.heap.size w2).drew H_m.out.lt, H_x.out.below (Below.refl w2.heap.size w2).drew H_x.out.lt, H_y.out.below (Below.refl w2.heap.size w2).drew H_y.out.lt, H_p.out.below (Below.refl w2.heap.size w2).drew, H_s.out.below (Below.refl w2.heap.size w2).drew H_s.out.lt⟩) ?_
      first
        | (refine Way.no 0 (by rfl) (by kernel_rfl) (by rfl) ?_; simp only [Act.put, List.setIfInBounds_toArray, List.set_cons_zero, List.set_cons_succ])
        | (refine' Way.yes 0 (by rfl) (by kernel_rfl) (by rfl) (fun wS hS => ?_) ?_
           rotate_left
           · obtain ⟨h_o, h_r, h_u, h_n, h_m, h_x, h_y, h_p, h_s⟩ := (S3_0D.out _).1 hS
             have cs := h_s.cell 0
             have cx := h_x.cell 0
             have cy := h_y.cell 0
             simp at cs cx cy
             go_simp
             first
               | exact ⟨rfl, Below.refl _ _⟩
           simp only [Act.put, List.setIfInBounds_toArray, List.set_cons_zero, List.set_cons_succ])
      first
        | (refine Way.no 1 (by rfl) (by kernel_rfl) (by rfl) ?_; simp only [Act.put, List.setIfInBounds_toArray, List.set_cons_zero, List.set_cons_succ])
        | (refine' Way.yes 1 (by rfl) (by kernel_rfl) (by rfl) (fun wS hS => ?_) ?_
           rotate_left
           · obtain ⟨h_o, h_r, h_u, h_n, h_m, h_x, h_y, h_p, h_s⟩ := (S3_0D.out _).1 hS
             have cs := h_s.cell 0
             have cx := h_x.cell 0
             have cy := h_y.cell 0
             simp at cs cx cy
             go_simp
             first
               | exact ⟨rfl, Below.refl _ _⟩
           simp only [Act.put, List.setIfInBounds_toArray, List.set_cons_zero, List.set_cons_succ])
      first
        | (refine Way.no 2 (by rfl) (by kernel_rfl) (by rfl) ?_; simp only [Act.put, List.setIfInBounds_toArray, List.set_cons_zero, List.set_cons_succ])
        | (refine' Way.yes 2 (by rfl) (by kernel_rfl) (by rfl) (fun wS hS => ?_) ?_
           rotate_left
           · obtain ⟨h_o, h_r, h_u, h_n, h_m, h_x, h_y, h_p, h_s⟩ := (S3_0D.out _).1 hS
             have cs := h_s.cell 0
             have cx := h_x.cell 0
             have cy := h_y.cell 0
             simp at cs cx cy
             go_simp
             first
               | exact ⟨rfl, Below.refl _ _⟩
           simp only [Act.put, List.setIfInBounds_toArray, List.set_cons_zero, List.set_cons_succ])
      first
        | (refine Way.no 3 (by rfl) (by kernel_rfl) (by rfl) ?_; simp only [Act.put, List.setIfInBounds_toArray, List.set_cons_zero, List.set_cons_succ])
        | (refine' Way.yes 3 (by rfl) (by kernel_rfl) (by rfl) (fun wS hS => ?_) ?_
           rotate_left
           · obtain ⟨h_o, h_r, h_u, h_n, h_m, h_x, h_y, h_p, h_s⟩ := (S3_0D.out _).1 hS
             have cs := h_s.cell 0
             have cx := h_x.cell 0
             have cy := h_y.cell 0
             simp at cs cx cy
             go_simp
             first
               | exact ⟨rfl, Below.refl _ _⟩
           simp only [Act.put, List.setIfInBounds_toArray, List.set_cons_zero, List.set_cons_succ])
      first
        | (refine Way.no 4 (by rfl) (by kernel_rfl) (by rfl) ?_; simp only [Act.put, List.setIfInBounds_toArray, List.set_cons_zero, List.set_cons_succ])
        | (refine' Way.yes 4 (by rfl) (by kernel_rfl) (by rfl) (fun wS hS => ?_) ?_
           rotate_left
           · obtain ⟨h_o, h_r, h_u, h_n, h_m, h_x, h_y, h_p, h_s⟩ := (S3_0D.out _).1 hS
             have cs := h_s.cell 0
             have cx := h_x.cell 0
             have cy := h_y.cell 0
             simp at cs cx cy
             go_simp
             first
               | exact ⟨rfl, Below.refl _ _⟩
           simp only [Act.put, List.setIfInBounds_toArray, List.set_cons_zero, List.set_cons_succ])
      refine Way.move 5 (by rfl) (by kernel_rfl) (by rfl) (fun wA hS => ?_)
      obtain ⟨h_o, h_r, h_u, h_n, h_m, h_x, h_y, h_p, h_s⟩ := (S3_0D.out _).1 hS
      clear hS
      go_simp
      refine (HLE.out _ h_u).mono ?_
      rintro e wN ⟨A4, n4, c4, rfl, hl, hb⟩
      refine ⟨_, rfl, ?_⟩
      obtain ⟨S3_1, S3_1D⟩ : ∃ S : World → Prop, Go.RowKit.Hid (∀ w' : World, S w' ↔ ((Blk w' w.heap.size 37 #[.int .i64 4, .int .i64 a, .int .i64 b, wv N, .int .i64 K, .string ⟨s.toArray⟩]) ∧ (RowS base hi w' rb gp cp gd cd xs xs P D) ∧ (Below w.heap.size w w') ∧ (Blk w' g7 26 #[.slice A1 n1 c1]) ∧ (Blk w' g8 26 #[.slice A2 n2 c2]) ∧ (Blk w' g9 31 #[.slice B1 m1 d1]) ∧ (Blk w' g10 31 #[.slice B2 m2 d2]) ∧ (Ans (x - y) 0 w' A3 n3 c3 er) ∧ (Blk w' g1 26 #[.slice A3 n3 c3]) ∧ (RatL w' A4 n4 c4 (x - y)))) := ⟨_, Lib.hid (fun _ => Iff.rfl)⟩
      refine Moved.keep S3_1 (fun W W' h hb => by obtain ⟨h_o, h_r, h_u, h_n, h_m, h_x, h_y, h_p, h_s, h_d⟩ := (S3_1D.out _).1 h; exact (S3_1D.out _).2 ⟨h_o.below hb h_o.lt, h_r.below hb, keepb h_u hb, h_n.below hb h_n.lt, h_m.below hb h_m.lt, h_x.below hb h_x.lt, h_y.below hb h_y.lt, h_p.below hb, h_s.below hb h_s.lt, h_d.below hb⟩) (fun W h => by obtain ⟨h_o, h_r, h_u, h_n, h_m, h_x, h_y, h_p, h_s, h_d⟩ := (S3_1D.out _).1 h; exact (S3_0D.out _).2 ⟨h_o, h_r, h_u, h_n, h_m, h_x, h_y, h_p, h_s⟩) ((S3_1D.out _).2 ⟨h_o.below hb h_o.lt, h_r.below hb, keepb h_u hb, h_n.below hb h_n.lt, h_m.below hb h_m.lt, h_x.below hb h_x.lt, h_y.below hb h_y.lt, h_p.below hb, h_s.below hb h_s.lt, hl⟩) ?_
      clear h_o h_r h_u h_n h_m h_x h_y h_p h_s
      clear hl hb
      try simp only [Act.put, List.setIfInBounds_toArray, List.set_cons_zero, List.set_cons_succ]
      refine Way.move 6 (by rfl) (by kernel_rfl) (by rfl) (fun wA hS => ?_)
      obtain ⟨h_o, h_r, h_u, h_n, h_m, h_x, h_y, h_p, h_s, h_d⟩ := (S3_1D.out _).1 hS
      clear hS
      go_simp
      refine (HPUT.out (x - y) 0 A3 A4 n3 c3 n4 c4 er _ ⟨_, _, _, _, _, _, h_r⟩ h_p (fun _ => h_d)).mono ?_
      rintro e wN ⟨rfl, hz, _, hbe⟩
      refine ⟨_, rfl, ?_⟩
      obtain ⟨S3_2, S3_2D⟩ : ∃ S : World → Prop, Go.RowKit.Hid (∀ w' : World, S w' ↔ ((∃ h2 ys, xs.length ≤ ys.length ∧ ys.length ≤ xs.length + 1 ∧ Row base h2 w' rb ys) ∧ (Below base w w' ∧ base ≤ w'.heap.size))) := ⟨_, Lib.hid (fun _ => Iff.rfl)⟩
      refine Moved.turn S3_2 (fun W W' h hb => by obtain ⟨h_z, h_e⟩ := (S3_2D.out _).1 h; exact (S3_2D.out _).2 ⟨(by obtain ⟨h2, ys, h3, h4, h5⟩ := h_z; exact ⟨h2, ys, h3, h4, h5.below hb⟩), ⟨h_e.1.trans (hb.mono h_e.2), Nat.le_trans h_e.2 hb.size⟩⟩) (by kernel_rfl) ((S3_2D.out _).2 ⟨hz, ⟨(h_u.mono HBL.out).trans hbe, by obtain ⟨_, _, _, _, h⟩ := hz; exact h.base_le⟩⟩) ?_
      clear h_o h_r h_u h_n h_m h_x h_y h_p h_s h_d
      try simp only [Act.put, List.setIfInBounds_toArray, List.set_cons_zero, List.set_cons_succ]
      clear hz hbe
      first
        | (refine Way.no 7 (by rfl) (by kernel_rfl) (by rfl) ?_; simp only [Act.put, List.setIfInBounds_toArray, List.set_cons_zero, List.set_cons_succ])
        | (refine' Way.yes 7 (by rfl) (by kernel_rfl) (by rfl) (fun wS hS => ?_) ?_
           rotate_left
           · obtain ⟨h_z, h_e⟩ := (S3_2D.out _).1 hS
             go_simp
             first
               | exact ⟨rfl, Below.refl _ _⟩
           simp only [Act.put, List.setIfInBounds_toArray, List.set_cons_zero, List.set_cons_succ])
      refine Way.done (by kernel_rfl) (fun wE hS => ?_)
      obtain ⟨h_z, h_e⟩ := (S3_2D.out _).1 hS
      have H_z := Lib.hid h_z
      have H_e := Lib.hid h_e
      clear hS h_z h_e
      go_wp2_with fail
      go_ret
      obtain ⟨h2, ys, h3, h4, h5⟩ := H_z.out
      exact ⟨rfl, ⟨h2, ys, h3, by omega, h5⟩, H_e.out.1⟩
  · have HOPN := Lib.hid (fun W (hb : Below w.heap.size w W) => (mul_nat _ _ x y W (HN1.out W hb) (HN2.out W hb) (by have := HX.out; rw [HMM.out] at this; omega) (by have := HYY.out; rw [HMM.out] at this; omega)).mono (fun e w' h => NatB.ans h HMM.out))
    have HREF := Lib.hid (fun W (hb : Below w.heap.size w W) => rproduct_v HY.out _ _ x y W (HR1.out W hb) (HR2.out W hb) (two_b4 HX.out HYY.out HMM.out HM4.out HY.out).1 (two_b4 HX.out HYY.out HMM.out HM4.out HY.out).2.1)
    have HOV := Lib.hid (fun v W (h : RatW W v (x * y)) => rover_nat v (x * y) Y M Z W h (two_b4 HX.out HYY.out HMM.out HM4.out HY.out).2.2.2 (by have := HY.out; omega) HMM.out HZ.out)
    obtain ⟨X, hX⟩ : ∃ X, x * y = X := ⟨_, rfl⟩
    rw [hX] at HOV HOPN HREF
    obtain ⟨G, hG⟩ : ∃ G, overB X M = G := ⟨_, rfl⟩
    rw [hG] at HOV HOPN
    have HLS := Lib.hid (fun W => less_any (!G) 11 W)
    obtain ⟨no, hno⟩ : ∃ no, lessV (!G) 11 = no := ⟨_, rfl⟩
    rw [hno] at HLS HOPN
    clear hX hG hno
    have fk := H_o.out.cell 0
    simp only [List.getElem?_toArray, List.getElem?_cons_zero, List.getElem?_cons_succ] at fk
    have fn := H_n.out.cell 0
    simp only [List.getElem?_toArray, List.getElem?_cons_zero, List.getElem?_cons_succ] at fn
    have fm := H_m.out.cell 0
    simp only [List.getElem?_toArray, List.getElem?_cons_zero, List.getElem?_cons_succ] at fm
    go_wp2_with fail
    refine (HOPN.out _ H_u.out).mono ?_
    rintro e w1 ⟨A3, n3, c3, er, rfl, ha, hb⟩
    clear fk fn fm
    have K_o := Lib.hid (show Blk w1 w.heap.size 37 #[.int .i64 5, .int .i64 a, .int .i64 b, wv N, .int .i64 K, .string ⟨s.toArray⟩] from H_o.out.below hb H_o.out.lt)
    have K_r := Lib.hid (show RowS base hi w1 rb gp cp gd cd xs xs P D from H_r.out.below hb)
    have K_u := Lib.hid (show Below w.heap.size w w1 from keepb H_u.out hb)
    have K_n := Lib.hid (show Blk w1 g7 26 #[.slice A1 n1 c1] from H_n.out.below hb H_n.out.lt)
    have K_m := Lib.hid (show Blk w1 g8 26 #[.slice A2 n2 c2] from H_m.out.below hb H_m.out.lt)
    have K_x := Lib.hid (show Blk w1 g9 31 #[.slice B1 m1 d1] from H_x.out.below hb H_x.out.lt)
    have K_y := Lib.hid (show Blk w1 g10 31 #[.slice B2 m2 d2] from H_y.out.below hb H_y.out.lt)
    have K_p := Lib.hid (show Ans X no w1 A3 n3 c3 er from ha)
    clear hb H_o H_r H_u H_n H_m H_x H_y
    clear ha
    go_upto_region 15 with fail
    obtain ⟨V1, hV1⟩ : ∃ V, (w1.alloc (.cells #[.slice A3 n3 c3] 26)) = V := ⟨_, rfl⟩
    have hbn : Below w1.heap.size w1 V1 := by rw [← hV1]; go_grown
    have H_o := Lib.hid (show Blk V1 w.heap.size 37 #[.int .i64 5, .int .i64 a, .int .i64 b, wv N, .int .i64 K, .string ⟨s.toArray⟩] from K_o.out.below hbn K_o.out.lt)
    have H_r := Lib.hid (show RowS base hi V1 rb gp cp gd cd xs xs P D from K_r.out.below hbn)
    have H_u := Lib.hid (show Below w.heap.size w V1 from keepb K_u.out hbn)
    have H_n := Lib.hid (show Blk V1 g7 26 #[.slice A1 n1 c1] from K_n.out.below hbn K_n.out.lt)
    have H_m := Lib.hid (show Blk V1 g8 26 #[.slice A2 n2 c2] from K_m.out.below hbn K_m.out.lt)
    have H_x := Lib.hid (show Blk V1 g9 31 #[.slice B1 m1 d1] from K_x.out.below hbn K_x.out.lt)
    have H_y := Lib.hid (show Blk V1 g10 31 #[.slice B2 m2 d2] from K_y.out.below hbn K_y.out.lt)
    have H_p := Lib.hid (show Ans X no V1 A3 n3 c3 er from K_p.out.below hbn)
    have B_s := Lib.hid (show Blk V1 w1.heap.size 26 #[.slice A3 n3 c3] from by rw [← hV1]; exact Blk.new w1 26 #[.slice A3 n3 c3])
    obtain ⟨g1, hg1⟩ : ∃ g, w1.heap.size = g := ⟨_, rfl⟩
    simp only [hV1, hg1] at B_s ⊢
    have H_s := B_s
    clear hV1 hg1 hbn K_o K_r K_u K_n K_m K_x K_y K_p B_s
    have fx := H_x.out.cell 0
    simp only [List.getElem?_toArray, List.getElem?_cons_zero, List.getElem?_cons_succ] at fx
    have fy := H_y.out.cell 0
    simp only [List.getElem?_toArray, List.getElem?_cons_zero, List.getElem?_cons_succ] at fy
    go_wp2_with fail
    refine (HREF.out _ H_u.out).mono ?_
    rintro e w2 ⟨A4, n4, c4, rfl, hl, hb⟩
    clear fx fy
    have K_o := Lib.hid (show Blk w2 w.heap.size 37 #[.int .i64 5, .int .i64 a, .int .i64 b, wv N, .int .i64 K, .string ⟨s.toArray⟩] from H_o.out.below hb H_o.out.lt)
    have K_r := Lib.hid (show RowS base hi w2 rb gp cp gd cd xs xs P D from H_r.out.below hb)
    have K_u := Lib.hid (show Below w.heap.size w w2 from keepb H_u.out hb)
    have K_n := Lib.hid (show Blk w2 g7 26 #[.slice A1 n1 c1] from H_n.out.below hb H_n.out.lt)
    have K_m := Lib.hid (show Blk w2 g8 26 #[.slice A2 n2 c2] from H_m.out.below hb H_m.out.lt)
    have K_x := Lib.hid (show Blk w2 g9 31 #[.slice B1 m1 d1] from H_x.out.below hb H_x.out.lt)
    have K_y := Lib.hid (show Blk w2 g10 31 #[.slice B2 m2 d2] from H_y.out.below hb H_y.out.lt)
    have K_p := Lib.hid (show Ans X no w2 A3 n3 c3 er from H_p.out.below hb)
    have K_s := Lib.hid (show Blk w2 g1 26 #[.slice A3 n3 c3] from H_s.out.below hb H_s.out.lt)
    have K_d := Lib.hid (show RatL w2 A4 n4 c4 X from hl)
    clear hb H_o H_r H_u H_n H_m H_x H_y H_p H_s
    clear hl
    go_upto_region 16 with fail
    obtain ⟨V2, hV2⟩ : ∃ V, (w2.alloc (.cells #[.slice A4 n4 c4] 31)) = V := ⟨_, rfl⟩
    have hbn : Below w2.heap.size w2 V2 := by rw [← hV2]; go_grown
    have H_o := Lib.hid (show Blk V2 w.heap.size 37 #[.int .i64 5, .int .i64 a, .int .i64 b, wv N, .int .i64 K, .string ⟨s.toArray⟩] from K_o.out.below hbn K_o.out.lt)
    have H_r := Lib.hid (show RowS base hi V2 rb gp cp gd cd xs xs P D from K_r.out.below hbn)
    have H_u := Lib.hid (show Below w.heap.size w V2 from keepb K_u.out hbn)
    have H_n := Lib.hid (show Blk V2 g7 26 #[.slice A1 n1 c1] from K_n.out.below hbn K_n.out.lt)
    have H_m := Lib.hid (show Blk V2 g8 26 #[.slice A2 n2 c2] from K_m.out.below hbn K_m.out.lt)
    have H_x := Lib.hid (show Blk V2 g9 31 #[.slice B1 m1 d1] from K_x.out.below hbn K_x.out.lt)
    have H_y := Lib.hid (show Blk V2 g10 31 #[.slice B2 m2 d2] from K_y.out.below hbn K_y.out.lt)
    have H_p := Lib.hid (show Ans X no V2 A3 n3 c3 er from K_p.out.below hbn)
    have H_s := Lib.hid (show Blk V2 g1 26 #[.slice A3 n3 c3] from K_s.out.below hbn K_s.out.lt)
    have H_d := Lib.hid (show RatL V2 A4 n4 c4 X from K_d.out.below hbn)
    have B_t := Lib.hid (show Blk V2 w2.heap.size 31 #[.slice A4 n4 c4] from by rw [← hV2]; exact Blk.new w2 31 #[.slice A4 n4 c4])
    obtain ⟨g2, hg2⟩ : ∃ g, w2.heap.size = g := ⟨_, rfl⟩
    simp only [hV2, hg2] at B_t ⊢
    have H_t := B_t
    clear hV2 hg2 hbn K_o K_r K_u K_n K_m K_x K_y K_p K_s K_d B_t
    obtain ⟨S4_0, S4_0D⟩ : ∃ S : World → Prop, Go.RowKit.Hid (∀ w' : World, S w' ↔ ((Blk w' w.heap.size 37 #[.int .i64 5, .int .i64 a, .int .i64 b, wv N, .int .i64 K, .string ⟨s.toArray⟩]) ∧ (RowS base hi w' rb gp cp gd cd xs xs P D) ∧ (Below w.heap.size w w') ∧ (Blk w' g7 26 #[.slice A1 n1 c1]) ∧ (Blk w' g8 26 #[.slice A2 n2 c2]) ∧ (Blk w' g9 31 #[.slice B1 m1 d1]) ∧ (Blk w' g10 31 #[.slice B2 m2 d2]) ∧ (Ans X no w' A3 n3 c3 er) ∧ (Blk w' g1 26 #[.slice A3 n3 c3]) ∧ (RatL w' A4 n4 c4 X) ∧ (Blk w' g2 31 #[.slice A4 n4 c4]))) := ⟨_, Lib.hid (fun _ => Iff.rfl)⟩
    refine wp_region_way (S := S4_0) (by kernel_rfl) (by kernel_rfl) (fun W W' h hb => by obtain ⟨h_o, h_r, h_u, h_n, h_m, h_x, h_y, h_p, h_s, h_d, h_t⟩ := (S4_0D.out _).1 h; exact (S4_0D.out _).2 ⟨h_o.below hb h_o.lt, h_r.below hb, keepb h_u hb, h_n.below hb h_n.lt, h_m.below hb h_m.lt, h_x.below hb h_x.lt, h_y.below hb h_y.lt, h_p.below hb, h_s.below hb h_s.lt, h_d.below hb, h_t.below hb h_t.lt⟩) ((S4_0D.out _).2 ⟨H_o.out.below (Below.refl V2.heap.size V2).drew H_o.out.lt, H_r.out.below (Below.refl V2.heap.size V2).drew, keepb H_u.out (Below.refl V2.heap.size V2).drew, H_n.out.below (Below.refl V2.heap.size V2).drew H_n.out.lt, H_m.out.below (Below.refl V2.heap.size V2).drew H_m.out.lt, H_x.out.below (Below.refl V2.heap.size V2).drew H_x.out.lt, H_y.out.below (Below.refl V2.heap.size V2).drew H_y.out.lt, H_p.out.below (Below.refl V2.heap.size V2).drew, H_s.out.below (Below.refl V2.heap.size V2).drew H_s.out.lt, H_d.out.below (Below.refl V2.heap.size V2).drew, H_t.out.below (Below.refl V2.heap.size V2).drew H_t.out.lt⟩) ?_
    first
      | (refine Way.no 0 (by rfl) (by kernel_rfl) (by rfl) ?_; simp only [Act.put, List.setIfInBounds_toArray, List.set_cons_zero, List.set_cons_succ])
      | (refine' Way.yes 0 (by rfl) (by kernel_rfl) (by rfl) (fun wS hS => ?_) ?_
         rotate_left
         · obtain ⟨h_o, h_r, h_u, h_n, h_m, h_x, h_y, h_p, h_s, h_d, h_t⟩ := (S4_0D.out _).1 hS
           have cs := h_s.cell 0
           have ct := h_t.cell 0
           simp at cs ct
           go_simp
           first
             | exact ⟨rfl, Below.refl _ _⟩
         simp only [Act.put, List.setIfInBounds_toArray, List.set_cons_zero, List.set_cons_succ])
    first
      | (refine Way.no 1 (by rfl) (by kernel_rfl) (by rfl) ?_; simp only [Act.put, List.setIfInBounds_toArray, List.set_cons_zero, List.set_cons_succ])
      | (refine' Way.yes 1 (by rfl) (by kernel_rfl) (by rfl) (fun wS hS => ?_) ?_
         rotate_left
         · obtain ⟨h_o, h_r, h_u, h_n, h_m, h_x, h_y, h_p, h_s, h_d, h_t⟩ := (S4_0D.out _).1 hS
           have cs := h_s.cell 0
           have ct := h_t.cell 0
           simp at cs ct
           go_simp
           first
             | exact ⟨rfl, Below.refl _ _⟩
         simp only [Act.put, List.setIfInBounds_toArray, List.set_cons_zero, List.set_cons_succ])
    first
      | (refine Way.no 2 (by rfl) (by kernel_rfl) (by rfl) ?_; simp only [Act.put, List.setIfInBounds_toArray, List.set_cons_zero, List.set_cons_succ])
      | (refine' Way.yes 2 (by rfl) (by kernel_rfl) (by rfl) (fun wS hS => ?_) ?_
         rotate_left
         · obtain ⟨h_o, h_r, h_u, h_n, h_m, h_x, h_y, h_p, h_s, h_d, h_t⟩ := (S4_0D.out _).1 hS
           have cs := h_s.cell 0
           have ct := h_t.cell 0
           simp at cs ct
           go_simp
           first
             | exact ⟨rfl, Below.refl _ _⟩
         simp only [Act.put, List.setIfInBounds_toArray, List.set_cons_zero, List.set_cons_succ])
    first
      | (refine Way.no 3 (by rfl) (by kernel_rfl) (by rfl) ?_; simp only [Act.put, List.setIfInBounds_toArray, List.set_cons_zero, List.set_cons_succ])
      | (refine' Way.yes 3 (by rfl) (by kernel_rfl) (by rfl) (fun wS hS => ?_) ?_
         rotate_left
         · obtain ⟨h_o, h_r, h_u, h_n, h_m, h_x, h_y, h_p, h_s, h_d, h_t⟩ := (S4_0D.out _).1 hS
           have cs := h_s.cell 0
           have ct := h_t.cell 0
           simp at cs ct
           go_simp
           first
             | exact ⟨rfl, Below.refl _ _⟩
         simp only [Act.put, List.setIfInBounds_toArray, List.set_cons_zero, List.set_cons_succ])
    first
      | (refine Way.no 4 (by rfl) (by kernel_rfl) (by rfl) ?_; simp only [Act.put, List.setIfInBounds_toArray, List.set_cons_zero, List.set_cons_succ])
      | (refine' Way.yes 4 (by rfl) (by kernel_rfl) (by rfl) (fun wS hS => ?_) ?_
         rotate_left
         · obtain ⟨h_o, h_r, h_u, h_n, h_m, h_x, h_y, h_p, h_s, h_d, h_t⟩ := (S4_0D.out _).1 hS
           have cs := h_s.cell 0
           have ct := h_t.cell 0
           simp at cs ct
           go_simp
           first
             | exact ⟨rfl, Below.refl _ _⟩
         simp only [Act.put, List.setIfInBounds_toArray, List.set_cons_zero, List.set_cons_succ])
    refine' Way.yes (v := .bool G) 5 (by rfl) (by kernel_rfl) (by rfl) (fun wS hS => ?_) ?_
    · obtain ⟨h_o, h_r, h_u, h_n, h_m, h_x, h_y, h_p, h_s, h_d, h_t⟩ := (S4_0D.out _).1 hS
      go_simp
      exact (HOV.out _ _ h_d.w).mono fun e w2 h => h
    simp only [Act.put, List.setIfInBounds_toArray, List.set_cons_zero, List.set_cons_succ]
    first
      | (refine Way.no 6 (by rfl) (by kernel_rfl) (by rfl) ?_; simp only [Act.put, List.setIfInBounds_toArray, List.set_cons_zero, List.set_cons_succ])
      | (refine' Way.yes 6 (by rfl) (by kernel_rfl) (by rfl) (fun wS hS => ?_) ?_
         rotate_left
         · obtain ⟨h_o, h_r, h_u, h_n, h_m, h_x, h_y, h_p, h_s, h_d, h_t⟩ := (S4_0D.out _).1 hS
           go_simp
           first
             | exact ⟨rfl, Below.refl _ _⟩
         simp only [Act.put, List.setIfInBounds_toArray, List.set_cons_zero, List.set_cons_succ])
    refine' Way.yes (v := .int .i64 no) 7 (by rfl) (by kernel_rfl) (by rfl) (fun wS hS => ?_) ?_
    · obtain ⟨h_o, h_r, h_u, h_n, h_m, h_x, h_y, h_p, h_s, h_d, h_t⟩ := (S4_0D.out _).1 hS
      go_simp
      exact (HLS.out _).mono fun e w2 h => h
    simp only [Act.put, List.setIfInBounds_toArray, List.set_cons_zero, List.set_cons_succ]
    refine Way.move 8 (by rfl) (by kernel_rfl) (by rfl) (fun wA hS => ?_)
    obtain ⟨h_o, h_r, h_u, h_n, h_m, h_x, h_y, h_p, h_s, h_d, h_t⟩ := (S4_0D.out _).1 hS
    clear hS
    go_simp
    refine (HPUT.out X no A3 A4 n3 c3 n4 c4 er _ ⟨_, _, _, _, _, _, h_r⟩ h_p (fun _ => h_d)).mono ?_
    rintro e wN ⟨rfl, hz, _, hbe⟩
    refine ⟨_, rfl, ?_⟩
    obtain ⟨S4_1, S4_1D⟩ : ∃ S : World → Prop, Go.RowKit.Hid (∀ w' : World, S w' ↔ ((∃ h2 ys, xs.length ≤ ys.length ∧ ys.length ≤ xs.length + 1 ∧ Row base h2 w' rb ys) ∧ (Below base w w' ∧ base ≤ w'.heap.size))) := ⟨_, Lib.hid (fun _ => Iff.rfl)⟩
    refine Moved.turn S4_1 (fun W W' h hb => by obtain ⟨h_z, h_e⟩ := (S4_1D.out _).1 h; exact (S4_1D.out _).2 ⟨(by obtain ⟨h2, ys, h3, h4, h5⟩ := h_z; exact ⟨h2, ys, h3, h4, h5.below hb⟩), ⟨h_e.1.trans (hb.mono h_e.2), Nat.le_trans h_e.2 hb.size⟩⟩) (by kernel_rfl) ((S4_1D.out _).2 ⟨hz, ⟨(h_u.mono HBL.out).trans hbe, by obtain ⟨_, _, _, _, h⟩ := hz; exact h.base_le⟩⟩) ?_
    clear h_o h_r h_u h_n h_m h_x h_y h_p h_s h_d h_t
    try simp only [Act.put, List.setIfInBounds_toArray, List.set_cons_zero, List.set_cons_succ]
    clear hz hbe
    first
      | (refine Way.no 9 (by rfl) (by kernel_rfl) (by rfl) ?_; simp only [Act.put, List.setIfInBounds_toArray, List.set_cons_zero, List.set_cons_succ])
      | (refine' Way.yes 9 (by rfl) (by kernel_rfl) (by rfl) (fun wS hS => ?_) ?_
         rotate_left
         · obtain ⟨h_z, h_e⟩ := (S4_1D.out _).1 hS
           go_simp
           first
             | exact ⟨rfl, Below.refl _ _⟩
         simp only [Act.put, List.setIfInBounds_toArray, List.set_cons_zero, List.set_cons_succ])
    refine Way.done (by kernel_rfl) (fun wE hS => ?_)
    obtain ⟨h_z, h_e⟩ := (S4_1D.out _).1 hS
    have H_z := Lib.hid h_z
    have H_e := Lib.hid h_e
    clear hS h_z h_e
    go_wp2_with fail
    go_ret
    obtain ⟨h2, ys, h3, h4, h5⟩ := H_z.out
    exact ⟨rfl, ⟨h2, ys, h3, by omega, h5⟩, H_e.out.1⟩
  · have HOPN := Lib.hid (fun W (hb : Below w.heap.size w W) => (show Calls Tryd.prog 30 #[.agg #[.slice A1 n1 c1], .int .u64 (N : Int)] W (AnsE (x * N) (lessV (!overB (x * N) M) 11) W) from (times_nat _ x N W (HN1.out W hb) HNN.out (by have := HX.out; rw [HMM.out] at this; omega)).mono (fun e w' h => NatB.ans h HMM.out)))
    have HREF := Lib.hid (fun u W (hb : Below w.heap.size w W) (hu : RatW W u N) => rproduct_v HY.out _ u x N W (HR1.out W hb) hu (two_b4 HX.out (Nat.le_trans (blen_w64 HNN.out) (by have := HMM.out; omega)) HMM.out HM4.out HY.out).1 (two_b4 HX.out (Nat.le_trans (blen_w64 HNN.out) (by have := HMM.out; omega)) HMM.out HM4.out HY.out).2.1)
    have HRF := Lib.hid (fun W => (show Calls Tryd.prog 15 #[.int .u64 (N : Int)] W (RatV N W) from rof_nat N W HNN.out))
    have HOV := Lib.hid (fun v W (h : RatW W v (x * N)) => rover_nat v (x * N) Y M Z W h (two_b4 HX.out (Nat.le_trans (blen_w64 HNN.out) (by have := HMM.out; omega)) HMM.out HM4.out HY.out).2.2.2 (by have := HY.out; omega) HMM.out HZ.out)
    obtain ⟨X, hX⟩ : ∃ X, x * N = X := ⟨_, rfl⟩
    rw [hX] at HOV HOPN HREF
    obtain ⟨G, hG⟩ : ∃ G, overB X M = G := ⟨_, rfl⟩
    rw [hG] at HOV HOPN
    have HLS := Lib.hid (fun W => less_any (!G) 11 W)
    obtain ⟨no, hno⟩ : ∃ no, lessV (!G) 11 = no := ⟨_, rfl⟩
    rw [hno] at HLS HOPN
    clear hX hG hno
    have fk := H_o.out.cell 0
    simp only [List.getElem?_toArray, List.getElem?_cons_zero, List.getElem?_cons_succ] at fk
    have fn := H_n.out.cell 0
    simp only [List.getElem?_toArray, List.getElem?_cons_zero, List.getElem?_cons_succ] at fn
    have fN := H_o.out.cell 3
    simp only [List.getElem?_toArray, List.getElem?_cons_zero, List.getElem?_cons_succ] at fN
    go_wp2_with fail
    refine (HOPN.out _ H_u.out).mono ?_
    rintro e w1 ⟨A3, n3, c3, er, rfl, ha, hb⟩
    clear fk fn fN
    have K_o := Lib.hid (show Blk w1 w.heap.size 37 #[.int .i64 6, .int .i64 a, .int .i64 b, wv N, .int .i64 K, .string ⟨s.toArray⟩] from H_o.out.below hb H_o.out.lt)
    have K_r := Lib.hid (show RowS base hi w1 rb gp cp gd cd xs xs P D from H_r.out.below hb)
    have K_u := Lib.hid (show Below w.heap.size w w1 from keepb H_u.out hb)
    have K_n := Lib.hid (show Blk w1 g7 26 #[.slice A1 n1 c1] from H_n.out.below hb H_n.out.lt)
    have K_m := Lib.hid (show Blk w1 g8 26 #[.slice A2 n2 c2] from H_m.out.below hb H_m.out.lt)
    have K_x := Lib.hid (show Blk w1 g9 31 #[.slice B1 m1 d1] from H_x.out.below hb H_x.out.lt)
    have K_y := Lib.hid (show Blk w1 g10 31 #[.slice B2 m2 d2] from H_y.out.below hb H_y.out.lt)
    have K_p := Lib.hid (show Ans X no w1 A3 n3 c3 er from ha)
    clear hb H_o H_r H_u H_n H_m H_x H_y
    clear ha
    go_upto_region 19 with fail
    obtain ⟨V1, hV1⟩ : ∃ V, (w1.alloc (.cells #[.slice A3 n3 c3] 26)) = V := ⟨_, rfl⟩
    have hbn : Below w1.heap.size w1 V1 := by rw [← hV1]; go_grown
    have H_o := Lib.hid (show Blk V1 w.heap.size 37 #[.int .i64 6, .int .i64 a, .int .i64 b, wv N, .int .i64 K, .string ⟨s.toArray⟩] from K_o.out.below hbn K_o.out.lt)
    have H_r := Lib.hid (show RowS base hi V1 rb gp cp gd cd xs xs P D from K_r.out.below hbn)
    have H_u := Lib.hid (show Below w.heap.size w V1 from keepb K_u.out hbn)
    have H_n := Lib.hid (show Blk V1 g7 26 #[.slice A1 n1 c1] from K_n.out.below hbn K_n.out.lt)
    have H_m := Lib.hid (show Blk V1 g8 26 #[.slice A2 n2 c2] from K_m.out.below hbn K_m.out.lt)
    have H_x := Lib.hid (show Blk V1 g9 31 #[.slice B1 m1 d1] from K_x.out.below hbn K_x.out.lt)
    have H_y := Lib.hid (show Blk V1 g10 31 #[.slice B2 m2 d2] from K_y.out.below hbn K_y.out.lt)
    have H_p := Lib.hid (show Ans X no V1 A3 n3 c3 er from K_p.out.below hbn)
    have B_s := Lib.hid (show Blk V1 w1.heap.size 26 #[.slice A3 n3 c3] from by rw [← hV1]; exact Blk.new w1 26 #[.slice A3 n3 c3])
    obtain ⟨g1, hg1⟩ : ∃ g, w1.heap.size = g := ⟨_, rfl⟩
    simp only [hV1, hg1] at B_s ⊢
    have H_s := B_s
    clear hV1 hg1 hbn K_o K_r K_u K_n K_m K_x K_y K_p B_s
    go_cut [21] from 154 to 158 (fun s21 wx => ∃ g4 A4 n4 c4, s21 = .pointer (some ⟨g4, 0, none⟩) ∧ Blk wx g4 31 #[.slice A4 n4 c4] ∧ RatL wx A4 n4 c4 X ∧ (Blk wx w.heap.size 37 #[.int .i64 6, .int .i64 a, .int .i64 b, wv N, .int .i64 K, .string ⟨s.toArray⟩]) ∧ (RowS base hi wx rb gp cp gd cd xs xs P D) ∧ (Below w.heap.size w wx) ∧ (Blk wx g7 26 #[.slice A1 n1 c1]) ∧ (Blk wx g8 26 #[.slice A2 n2 c2]) ∧ (Blk wx g9 31 #[.slice B1 m1 d1]) ∧ (Blk wx g10 31 #[.slice B2 m2 d2]) ∧ (Ans X no wx A3 n3 c3 er) ∧ (Blk wx g1 26 #[.slice A3 n3 c3]))
    case first =>
      obtain ⟨S5_0, S5_0D⟩ : ∃ S : World → Prop, Go.RowKit.Hid (∀ w' : World, S w' ↔ ((Blk w' w.heap.size 37 #[.int .i64 6, .int .i64 a, .int .i64 b, wv N, .int .i64 K, .string ⟨s.toArray⟩]) ∧ (RowS base hi w' rb gp cp gd cd xs xs P D) ∧ (Below w.heap.size w w') ∧ (Blk w' g7 26 #[.slice A1 n1 c1]) ∧ (Blk w' g8 26 #[.slice A2 n2 c2]) ∧ (Blk w' g9 31 #[.slice B1 m1 d1]) ∧ (Blk w' g10 31 #[.slice B2 m2 d2]) ∧ (Ans X no w' A3 n3 c3 er) ∧ (Blk w' g1 26 #[.slice A3 n3 c3]))) := ⟨_, Lib.hid (fun _ => Iff.rfl)⟩
      refine wp_region_way (S := S5_0) (by kernel_rfl) (by kernel_rfl) (fun W W' h hb => by obtain ⟨h_o, h_r, h_u, h_n, h_m, h_x, h_y, h_p, h_s⟩ := (S5_0D.out _).1 h; exact (S5_0D.out _).2 ⟨h_o.below hb h_o.lt, h_r.below hb, keepb h_u hb, h_n.below hb h_n.lt, h_m.below hb h_m.lt, h_x.below hb h_x.lt, h_y.below hb h_y.lt, h_p.below hb, h_s.below hb h_s.lt⟩) ((S5_0D.out _).2 ⟨H_o.out.below (Below.refl V1.heap.size V1).drew H_o.out.lt, H_r.out.below (Below.refl V1.heap.size V1).drew, keepb H_u.out (Below.refl V1.heap.size V1).drew, H_n.out.below (Below.refl V1.heap.size V1).drew H_n.out.lt, H_m.out.below (Below.refl V1.heap.size V1).drew H_m.out.lt, H_x.out.below (Below.refl V1.heap.size V1).drew H_x.out.lt, H_y.out.below (Below.refl V1.heap.size V1).drew H_y.out.lt, H_p.out.below (Below.refl V1.heap.size V1).drew, H_s.out.below (Below.refl V1.heap.size V1).drew H_s.out.lt⟩) ?_
      first
        | (refine Way.no 0 (by rfl) (by kernel_rfl) (by rfl) ?_; simp only [Act.put, List.setIfInBounds_toArray, List.set_cons_zero, List.set_cons_succ])
        | (refine' Way.yes 0 (by rfl) (by kernel_rfl) (by rfl) (fun wS hS => ?_) ?_
           rotate_left
           · obtain ⟨h_o, h_r, h_u, h_n, h_m, h_x, h_y, h_p, h_s⟩ := (S5_0D.out _).1 hS
             have cx := h_x.cell 0
             have c3 := h_o.cell 3
             simp only [List.getElem?_toArray, List.getElem?_cons_zero, List.getElem?_cons_succ] at cx c3
             go_simp
             first
               | exact ⟨rfl, Below.refl _ _⟩
           simp only [Act.put, List.setIfInBounds_toArray, List.set_cons_zero, List.set_cons_succ])
      first
        | (refine Way.no 1 (by rfl) (by kernel_rfl) (by rfl) ?_; simp only [Act.put, List.setIfInBounds_toArray, List.set_cons_zero, List.set_cons_succ])
        | (refine' Way.yes 1 (by rfl) (by kernel_rfl) (by rfl) (fun wS hS => ?_) ?_
           rotate_left
           · obtain ⟨h_o, h_r, h_u, h_n, h_m, h_x, h_y, h_p, h_s⟩ := (S5_0D.out _).1 hS
             have cx := h_x.cell 0
             have c3 := h_o.cell 3
             simp only [List.getElem?_toArray, List.getElem?_cons_zero, List.getElem?_cons_succ] at cx c3
             go_simp
             first
               | exact ⟨rfl, Below.refl _ _⟩
           simp only [Act.put, List.setIfInBounds_toArray, List.set_cons_zero, List.set_cons_succ])
      first
        | (refine Way.no 2 (by rfl) (by kernel_rfl) (by rfl) ?_; simp only [Act.put, List.setIfInBounds_toArray, List.set_cons_zero, List.set_cons_succ])
        | (refine' Way.yes 2 (by rfl) (by kernel_rfl) (by rfl) (fun wS hS => ?_) ?_
           rotate_left
           · obtain ⟨h_o, h_r, h_u, h_n, h_m, h_x, h_y, h_p, h_s⟩ := (S5_0D.out _).1 hS
             have cx := h_x.cell 0
             have c3 := h_o.cell 3
             simp only [List.getElem?_toArray, List.getElem?_cons_zero, List.getElem?_cons_succ] at cx c3
             go_simp
             first
               | exact ⟨rfl, Below.refl _ _⟩
           simp only [Act.put, List.setIfInBounds_toArray, List.set_cons_zero, List.set_cons_succ])
      refine Way.move2 3 5 (by rfl) (by rfl) (by kernel_rfl) (by rfl) (by rfl) (fun wA hS => ?_) (fun wA hS => ?_)
      · obtain ⟨h_o, h_r, h_u, h_n, h_m, h_x, h_y, h_p, h_s⟩ := (S5_0D.out _).1 hS
        clear hS
        go_simp
        refine (HRF.out _).mono ?_
        rintro e wN ⟨A5, n5, c5, rfl, hl, hb⟩
        refine ⟨_, rfl, ?_⟩
        obtain ⟨S5_1, S5_1D⟩ : ∃ S : World → Prop, Go.RowKit.Hid (∀ w' : World, S w' ↔ ((Blk w' w.heap.size 37 #[.int .i64 6, .int .i64 a, .int .i64 b, wv N, .int .i64 K, .string ⟨s.toArray⟩]) ∧ (RowS base hi w' rb gp cp gd cd xs xs P D) ∧ (Below w.heap.size w w') ∧ (Blk w' g7 26 #[.slice A1 n1 c1]) ∧ (Blk w' g8 26 #[.slice A2 n2 c2]) ∧ (Blk w' g9 31 #[.slice B1 m1 d1]) ∧ (Blk w' g10 31 #[.slice B2 m2 d2]) ∧ (Ans X no w' A3 n3 c3 er) ∧ (Blk w' g1 26 #[.slice A3 n3 c3]) ∧ (RatL w' A5 n5 c5 N))) := ⟨_, Lib.hid (fun _ => Iff.rfl)⟩
        refine Moved.keep S5_1 (fun W W' h hb => by obtain ⟨h_o, h_r, h_u, h_n, h_m, h_x, h_y, h_p, h_s, h_w⟩ := (S5_1D.out _).1 h; exact (S5_1D.out _).2 ⟨h_o.below hb h_o.lt, h_r.below hb, keepb h_u hb, h_n.below hb h_n.lt, h_m.below hb h_m.lt, h_x.below hb h_x.lt, h_y.below hb h_y.lt, h_p.below hb, h_s.below hb h_s.lt, h_w.below hb⟩) (fun W h => by obtain ⟨h_o, h_r, h_u, h_n, h_m, h_x, h_y, h_p, h_s, h_w⟩ := (S5_1D.out _).1 h; exact (S5_0D.out _).2 ⟨h_o, h_r, h_u, h_n, h_m, h_x, h_y, h_p, h_s⟩) ((S5_1D.out _).2 ⟨h_o.below hb h_o.lt, h_r.below hb, keepb h_u hb, h_n.below hb h_n.lt, h_m.below hb h_m.lt, h_x.below hb h_x.lt, h_y.below hb h_y.lt, h_p.below hb, h_s.below hb h_s.lt, hl⟩) ?_
        clear h_o h_r h_u h_n h_m h_x h_y h_p h_s
        clear hl hb
        try simp only [Act.put, List.setIfInBounds_toArray, List.set_cons_zero, List.set_cons_succ]
        refine Way.move2 4 5 (by rfl) (by rfl) (by kernel_rfl) (by rfl) (by rfl) (fun wA hS => ?_) (fun wA hS => ?_)
        · obtain ⟨h_o, h_r, h_u, h_n, h_m, h_x, h_y, h_p, h_s, h_w⟩ := (S5_1D.out _).1 hS
          clear hS
          go_simp
          refine (HREF.out _ _ h_u h_w.w).mono ?_
          rintro e wN ⟨A4, n4, c4, rfl, hl, hb⟩
          refine ⟨_, rfl, ?_⟩
          obtain ⟨S5_2, S5_2D⟩ : ∃ S : World → Prop, Go.RowKit.Hid (∀ w' : World, S w' ↔ ((Blk w' w.heap.size 37 #[.int .i64 6, .int .i64 a, .int .i64 b, wv N, .int .i64 K, .string ⟨s.toArray⟩]) ∧ (RowS base hi w' rb gp cp gd cd xs xs P D) ∧ (Below w.heap.size w w') ∧ (Blk w' g7 26 #[.slice A1 n1 c1]) ∧ (Blk w' g8 26 #[.slice A2 n2 c2]) ∧ (Blk w' g9 31 #[.slice B1 m1 d1]) ∧ (Blk w' g10 31 #[.slice B2 m2 d2]) ∧ (Ans X no w' A3 n3 c3 er) ∧ (Blk w' g1 26 #[.slice A3 n3 c3]) ∧ (RatL w' A5 n5 c5 N) ∧ (RatL w' A4 n4 c4 X))) := ⟨_, Lib.hid (fun _ => Iff.rfl)⟩
          refine Moved.keep S5_2 (fun W W' h hb => by obtain ⟨h_o, h_r, h_u, h_n, h_m, h_x, h_y, h_p, h_s, h_w, h_d⟩ := (S5_2D.out _).1 h; exact (S5_2D.out _).2 ⟨h_o.below hb h_o.lt, h_r.below hb, keepb h_u hb, h_n.below hb h_n.lt, h_m.below hb h_m.lt, h_x.below hb h_x.lt, h_y.below hb h_y.lt, h_p.below hb, h_s.below hb h_s.lt, h_w.below hb, h_d.below hb⟩) (fun W h => by obtain ⟨h_o, h_r, h_u, h_n, h_m, h_x, h_y, h_p, h_s, h_w, h_d⟩ := (S5_2D.out _).1 h; exact (S5_1D.out _).2 ⟨h_o, h_r, h_u, h_n, h_m, h_x, h_y, h_p, h_s, h_w⟩) ((S5_2D.out _).2 ⟨h_o.below hb h_o.lt, h_r.below hb, keepb h_u hb, h_n.below hb h_n.lt, h_m.below hb h_m.lt, h_x.below hb h_x.lt, h_y.below hb h_y.lt, h_p.below hb, h_s.below hb h_s.lt, h_w.below hb, hl⟩) ?_
          clear h_o h_r h_u h_n h_m h_x h_y h_p h_s h_w
          clear hl hb
          try simp only [Act.put, List.setIfInBounds_toArray, List.set_cons_zero, List.set_cons_succ]
          refine Way.move 5 (by rfl) (by kernel_rfl) (by rfl) (fun wA hS => ?_)
          obtain ⟨h_o, h_r, h_u, h_n, h_m, h_x, h_y, h_p, h_s, h_w, h_d⟩ := (S5_2D.out _).1 hS
          clear hS
          have hb := below_new wA (.cells #[.slice none 0 0] 31)
          have hX' := Blk.new wA 31 #[.slice none 0 0]
          have hg' := h_u.size
          have hgx' := h_x.lt
          have hgy' := h_y.lt
          go_simp
          obtain ⟨g4, hgg⟩ : ∃ g, wA.heap.size = g := ⟨_, rfl⟩
          rw [hgg] at hX' hg' hgx' hgy'
          simp only [hgg]
          obtain ⟨S5_3, S5_3D⟩ : ∃ S : World → Prop, Go.RowKit.Hid (∀ w' : World, S w' ↔ ((Blk w' w.heap.size 37 #[.int .i64 6, .int .i64 a, .int .i64 b, wv N, .int .i64 K, .string ⟨s.toArray⟩]) ∧ (RowS base hi w' rb gp cp gd cd xs xs P D) ∧ (Below w.heap.size w w') ∧ (Blk w' g7 26 #[.slice A1 n1 c1]) ∧ (Blk w' g8 26 #[.slice A2 n2 c2]) ∧ (Blk w' g9 31 #[.slice B1 m1 d1]) ∧ (Blk w' g10 31 #[.slice B2 m2 d2]) ∧ (Ans X no w' A3 n3 c3 er) ∧ (Blk w' g1 26 #[.slice A3 n3 c3]) ∧ (RatL w' A5 n5 c5 N) ∧ (RatL w' A4 n4 c4 X) ∧ (Blk w' g4 31 #[.slice none 0 0] ∧ w.heap.size ≤ g4 ∧ g9 < g4 ∧ g10 < g4))) := ⟨_, Lib.hid (fun _ => Iff.rfl)⟩
          refine Moved.keep S5_3 (fun W W' h hb => by obtain ⟨h_o, h_r, h_u, h_n, h_m, h_x, h_y, h_p, h_s, h_w, h_d, h_g⟩ := (S5_3D.out _).1 h; exact (S5_3D.out _).2 ⟨h_o.below hb h_o.lt, h_r.below hb, keepb h_u hb, h_n.below hb h_n.lt, h_m.below hb h_m.lt, h_x.below hb h_x.lt, h_y.below hb h_y.lt, h_p.below hb, h_s.below hb h_s.lt, h_w.below hb, h_d.below hb, ⟨h_g.1.below hb h_g.1.lt, h_g.2⟩⟩) (fun W h => by obtain ⟨h_o, h_r, h_u, h_n, h_m, h_x, h_y, h_p, h_s, h_w, h_d, h_g⟩ := (S5_3D.out _).1 h; exact (S5_2D.out _).2 ⟨h_o, h_r, h_u, h_n, h_m, h_x, h_y, h_p, h_s, h_w, h_d⟩) ((S5_3D.out _).2 ⟨h_o.below hb h_o.lt, h_r.below hb, keepb h_u hb, h_n.below hb h_n.lt, h_m.below hb h_m.lt, h_x.below hb h_x.lt, h_y.below hb h_y.lt, h_p.below hb, h_s.below hb h_s.lt, h_w.below hb, h_d.below hb, ⟨hX', hg', hgx', hgy'⟩⟩) ?_
          clear h_o h_r h_u h_n h_m h_x h_y h_p h_s h_w h_d
          clear hb hX' hg' hgx' hgy' hgg
          try simp only [Act.put, List.setIfInBounds_toArray, List.set_cons_zero, List.set_cons_succ]
          refine Way.move 6 (by rfl) (by kernel_rfl) (by rfl) (fun wA hS => ?_)
          obtain ⟨h_o, h_r, h_u, h_n, h_m, h_x, h_y, h_p, h_s, h_w, h_d, h_g⟩ := (S5_3D.out _).1 hS
          clear hS
          have f1 := h_g.1.frozen 0
          have k1 := h_g.1.cell 0
          simp at k1
          go_simp
          have ho1 := h_r.hrb
          have ho2 := h_r.hgp
          have ho3 := h_r.hgd
          have ho4 := HHI.out
          have ho5 := h_g.2.1
          obtain ⟨S5_4, S5_4D⟩ : ∃ S : World → Prop, Go.RowKit.Hid (∀ w' : World, S w' ↔ ((Blk w' g4 31 #[.slice A4 n4 c4]) ∧ (RatL w' A4 n4 c4 X) ∧ (Blk w' w.heap.size 37 #[.int .i64 6, .int .i64 a, .int .i64 b, wv N, .int .i64 K, .string ⟨s.toArray⟩]) ∧ (RowS base hi w' rb gp cp gd cd xs xs P D) ∧ (Below w.heap.size w w') ∧ (Blk w' g7 26 #[.slice A1 n1 c1]) ∧ (Blk w' g8 26 #[.slice A2 n2 c2]) ∧ (Blk w' g9 31 #[.slice B1 m1 d1]) ∧ (Blk w' g10 31 #[.slice B2 m2 d2]) ∧ (Ans X no w' A3 n3 c3 er) ∧ (Blk w' g1 26 #[.slice A3 n3 c3]))) := ⟨_, Lib.hid (fun _ => Iff.rfl)⟩
          refine Moved.turn S5_4 (fun W W' h hb => by obtain ⟨h_t, h_d, h_o, h_r, h_u, h_n, h_m, h_x, h_y, h_p, h_s⟩ := (S5_4D.out _).1 h; exact (S5_4D.out _).2 ⟨h_t.below hb h_t.lt, h_d.below hb, h_o.below hb h_o.lt, h_r.below hb, keepb h_u hb, h_n.below hb h_n.lt, h_m.below hb h_m.lt, h_x.below hb h_x.lt, h_y.below hb h_y.lt, h_p.below hb, h_s.below hb h_s.lt⟩) (by kernel_rfl) ((S5_4D.out _).2 ⟨h_g.1.set1 0 _, h_d.set h_g.1 (by decide) _, (Blk.apart_far h_o h_g.1 (by decide) _), h_r.farr (by first | (simp; omega) | omega) h_g.1 (by decide) (by decide) _, h_u.setCell (by first | (dsimp only; omega) | (simp; done) | (simp; omega)) _, (Blk.apart_far h_n h_g.1 (by decide) _), (Blk.apart_far h_m h_g.1 (by decide) _), h_x.far (Nat.ne_of_lt h_g.2.2.1) _, h_y.far (Nat.ne_of_lt h_g.2.2.2) _, h_p.set h_g.1 (by decide) _, (Blk.apart_far h_s h_g.1 (by decide) _)⟩) ?_
          clear h_o h_r h_u h_n h_m h_x h_y h_p h_s h_w h_d h_g
          try simp only [Act.put, List.setIfInBounds_toArray, List.set_cons_zero, List.set_cons_succ]
          clear ho1 ho2 ho3 ho4 ho5 f1 k1
          refine Way.done (by kernel_rfl) (fun wE hS => ?_)
          obtain ⟨h_t, h_d, h_o, h_r, h_u, h_n, h_m, h_x, h_y, h_p, h_s⟩ := (S5_4D.out _).1 hS
          have H_t := Lib.hid h_t
          have H_d := Lib.hid h_d
          have H_o := Lib.hid h_o
          have H_r := Lib.hid h_r
          have H_u := Lib.hid h_u
          have H_n := Lib.hid h_n
          have H_m := Lib.hid h_m
          have H_x := Lib.hid h_x
          have H_y := Lib.hid h_y
          have H_p := Lib.hid h_p
          have H_s := Lib.hid h_s
          clear hS h_t h_d h_o h_r h_u h_n h_m h_x h_y h_p h_s
          go_wp2_with fail
          go_meet
          exact ⟨_, _, _, _, rfl, H_t.out, H_d.out, H_o.out, H_r.out, H_u.out, H_n.out, H_m.out, H_x.out, H_y.out, H_p.out, H_s.out⟩
        · obtain ⟨h_o, h_r, h_u, h_n, h_m, h_x, h_y, h_p, h_s, h_w⟩ := (S5_1D.out _).1 hS
          clear hS
          have hb := below_new wA (.cells #[.slice none 0 0] 31)
          have hX' := Blk.new wA 31 #[.slice none 0 0]
          have hg' := h_u.size
          have hgx' := h_x.lt
          have hgy' := h_y.lt
          go_simp
          obtain ⟨g4, hgg⟩ : ∃ g, wA.heap.size = g := ⟨_, rfl⟩
          rw [hgg] at hX' hg' hgx' hgy'
          simp only [hgg]
          obtain ⟨S5_2, S5_2D⟩ : ∃ S : World → Prop, Go.RowKit.Hid (∀ w' : World, S w' ↔ ((Blk w' w.heap.size 37 #[.int .i64 6, .int .i64 a, .int .i64 b, wv N, .int .i64 K, .string ⟨s.toArray⟩]) ∧ (RowS base hi w' rb gp cp gd cd xs xs P D) ∧ (Below w.heap.size w w') ∧ (Blk w' g7 26 #[.slice A1 n1 c1]) ∧ (Blk w' g8 26 #[.slice A2 n2 c2]) ∧ (Blk w' g9 31 #[.slice B1 m1 d1]) ∧ (Blk w' g10 31 #[.slice B2 m2 d2]) ∧ (Ans X no w' A3 n3 c3 er) ∧ (Blk w' g1 26 #[.slice A3 n3 c3]) ∧ (RatL w' A5 n5 c5 N) ∧ (Blk w' g4 31 #[.slice none 0 0] ∧ w.heap.size ≤ g4 ∧ g9 < g4 ∧ g10 < g4))) := ⟨_, Lib.hid (fun _ => Iff.rfl)⟩
          refine Moved.keep S5_2 (fun W W' h hb => by obtain ⟨h_o, h_r, h_u, h_n, h_m, h_x, h_y, h_p, h_s, h_w, h_g⟩ := (S5_2D.out _).1 h; exact (S5_2D.out _).2 ⟨h_o.below hb h_o.lt, h_r.below hb, keepb h_u hb, h_n.below hb h_n.lt, h_m.below hb h_m.lt, h_x.below hb h_x.lt, h_y.below hb h_y.lt, h_p.below hb, h_s.below hb h_s.lt, h_w.below hb, ⟨h_g.1.below hb h_g.1.lt, h_g.2⟩⟩) (fun W h => by obtain ⟨h_o, h_r, h_u, h_n, h_m, h_x, h_y, h_p, h_s, h_w, h_g⟩ := (S5_2D.out _).1 h; exact (S5_1D.out _).2 ⟨h_o, h_r, h_u, h_n, h_m, h_x, h_y, h_p, h_s, h_w⟩) ((S5_2D.out _).2 ⟨h_o.below hb h_o.lt, h_r.below hb, keepb h_u hb, h_n.below hb h_n.lt, h_m.below hb h_m.lt, h_x.below hb h_x.lt, h_y.below hb h_y.lt, h_p.below hb, h_s.below hb h_s.lt, h_w.below hb, ⟨hX', hg', hgx', hgy'⟩⟩) ?_
          clear h_o h_r h_u h_n h_m h_x h_y h_p h_s h_w
          clear hb hX' hg' hgx' hgy' hgg
          try simp only [Act.put, List.setIfInBounds_toArray, List.set_cons_zero, List.set_cons_succ]
          refine Way.move 4 (by rfl) (by kernel_rfl) (by rfl) (fun wA hS => ?_)
          obtain ⟨h_o, h_r, h_u, h_n, h_m, h_x, h_y, h_p, h_s, h_w, h_g⟩ := (S5_2D.out _).1 hS
          clear hS
          go_simp
          refine (HREF.out _ _ h_u h_w.w).mono ?_
          rintro e wN ⟨A4, n4, c4, rfl, hl, hb⟩
          refine ⟨_, rfl, ?_⟩
          obtain ⟨S5_3, S5_3D⟩ : ∃ S : World → Prop, Go.RowKit.Hid (∀ w' : World, S w' ↔ ((Blk w' w.heap.size 37 #[.int .i64 6, .int .i64 a, .int .i64 b, wv N, .int .i64 K, .string ⟨s.toArray⟩]) ∧ (RowS base hi w' rb gp cp gd cd xs xs P D) ∧ (Below w.heap.size w w') ∧ (Blk w' g7 26 #[.slice A1 n1 c1]) ∧ (Blk w' g8 26 #[.slice A2 n2 c2]) ∧ (Blk w' g9 31 #[.slice B1 m1 d1]) ∧ (Blk w' g10 31 #[.slice B2 m2 d2]) ∧ (Ans X no w' A3 n3 c3 er) ∧ (Blk w' g1 26 #[.slice A3 n3 c3]) ∧ (RatL w' A5 n5 c5 N) ∧ (Blk w' g4 31 #[.slice none 0 0] ∧ w.heap.size ≤ g4 ∧ g9 < g4 ∧ g10 < g4) ∧ (RatL w' A4 n4 c4 X))) := ⟨_, Lib.hid (fun _ => Iff.rfl)⟩
          refine Moved.keep S5_3 (fun W W' h hb => by obtain ⟨h_o, h_r, h_u, h_n, h_m, h_x, h_y, h_p, h_s, h_w, h_g, h_d⟩ := (S5_3D.out _).1 h; exact (S5_3D.out _).2 ⟨h_o.below hb h_o.lt, h_r.below hb, keepb h_u hb, h_n.below hb h_n.lt, h_m.below hb h_m.lt, h_x.below hb h_x.lt, h_y.below hb h_y.lt, h_p.below hb, h_s.below hb h_s.lt, h_w.below hb, ⟨h_g.1.below hb h_g.1.lt, h_g.2⟩, h_d.below hb⟩) (fun W h => by obtain ⟨h_o, h_r, h_u, h_n, h_m, h_x, h_y, h_p, h_s, h_w, h_g, h_d⟩ := (S5_3D.out _).1 h; exact (S5_2D.out _).2 ⟨h_o, h_r, h_u, h_n, h_m, h_x, h_y, h_p, h_s, h_w, h_g⟩) ((S5_3D.out _).2 ⟨h_o.below hb h_o.lt, h_r.below hb, keepb h_u hb, h_n.below hb h_n.lt, h_m.below hb h_m.lt, h_x.below hb h_x.lt, h_y.below hb h_y.lt, h_p.below hb, h_s.below hb h_s.lt, h_w.below hb, ⟨h_g.1.below hb h_g.1.lt, h_g.2⟩, hl⟩) ?_
          clear h_o h_r h_u h_n h_m h_x h_y h_p h_s h_w h_g
          clear hl hb
          try simp only [Act.put, List.setIfInBounds_toArray, List.set_cons_zero, List.set_cons_succ]
          refine Way.move 6 (by rfl) (by kernel_rfl) (by rfl) (fun wA hS => ?_)
          obtain ⟨h_o, h_r, h_u, h_n, h_m, h_x, h_y, h_p, h_s, h_w, h_g, h_d⟩ := (S5_3D.out _).1 hS
          clear hS
          have f1 := h_g.1.frozen 0
          have k1 := h_g.1.cell 0
          simp at k1
          go_simp
          have ho1 := h_r.hrb
          have ho2 := h_r.hgp
          have ho3 := h_r.hgd
          have ho4 := HHI.out
          have ho5 := h_g.2.1
          obtain ⟨S5_4, S5_4D⟩ : ∃ S : World → Prop, Go.RowKit.Hid (∀ w' : World, S w' ↔ ((Blk w' g4 31 #[.slice A4 n4 c4]) ∧ (RatL w' A4 n4 c4 X) ∧ (Blk w' w.heap.size 37 #[.int .i64 6, .int .i64 a, .int .i64 b, wv N, .int .i64 K, .string ⟨s.toArray⟩]) ∧ (RowS base hi w' rb gp cp gd cd xs xs P D) ∧ (Below w.heap.size w w') ∧ (Blk w' g7 26 #[.slice A1 n1 c1]) ∧ (Blk w' g8 26 #[.slice A2 n2 c2]) ∧ (Blk w' g9 31 #[.slice B1 m1 d1]) ∧ (Blk w' g10 31 #[.slice B2 m2 d2]) ∧ (Ans X no w' A3 n3 c3 er) ∧ (Blk w' g1 26 #[.slice A3 n3 c3]))) := ⟨_, Lib.hid (fun _ => Iff.rfl)⟩
          refine Moved.turn S5_4 (fun W W' h hb => by obtain ⟨h_t, h_d, h_o, h_r, h_u, h_n, h_m, h_x, h_y, h_p, h_s⟩ := (S5_4D.out _).1 h; exact (S5_4D.out _).2 ⟨h_t.below hb h_t.lt, h_d.below hb, h_o.below hb h_o.lt, h_r.below hb, keepb h_u hb, h_n.below hb h_n.lt, h_m.below hb h_m.lt, h_x.below hb h_x.lt, h_y.below hb h_y.lt, h_p.below hb, h_s.below hb h_s.lt⟩) (by kernel_rfl) ((S5_4D.out _).2 ⟨h_g.1.set1 0 _, h_d.set h_g.1 (by decide) _, (Blk.apart_far h_o h_g.1 (by decide) _), h_r.farr (by first | (simp; omega) | omega) h_g.1 (by decide) (by decide) _, h_u.setCell (by first | (dsimp only; omega) | (simp; done) | (simp; omega)) _, (Blk.apart_far h_n h_g.1 (by decide) _), (Blk.apart_far h_m h_g.1 (by decide) _), h_x.far (Nat.ne_of_lt h_g.2.2.1) _, h_y.far (Nat.ne_of_lt h_g.2.2.2) _, h_p.set h_g.1 (by decide) _, (Blk.apart_far h_s h_g.1 (by decide) _)⟩) ?_
          clear h_o h_r h_u h_n h_m h_x h_y h_p h_s h_w h_g h_d
          try simp only [Act.put, List.setIfInBounds_toArray, List.set_cons_zero, List.set_cons_succ]
          clear ho1 ho2 ho3 ho4 ho5 f1 k1
          refine Way.done (by kernel_rfl) (fun wE hS => ?_)
          obtain ⟨h_t, h_d, h_o, h_r, h_u, h_n, h_m, h_x, h_y, h_p, h_s⟩ := (S5_4D.out _).1 hS
          have H_t := Lib.hid h_t
          have H_d := Lib.hid h_d
          have H_o := Lib.hid h_o
          have H_r := Lib.hid h_r
          have H_u := Lib.hid h_u
          have H_n := Lib.hid h_n
          have H_m := Lib.hid h_m
          have H_x := Lib.hid h_x
          have H_y := Lib.hid h_y
          have H_p := Lib.hid h_p
          have H_s := Lib.hid h_s
          clear hS h_t h_d h_o h_r h_u h_n h_m h_x h_y h_p h_s
          go_wp2_with fail
          go_meet
          exact ⟨_, _, _, _, rfl, H_t.out, H_d.out, H_o.out, H_r.out, H_u.out, H_n.out, H_m.out, H_x.out, H_y.out, H_p.out, H_s.out⟩
      · obtain ⟨h_o, h_r, h_u, h_n, h_m, h_x, h_y, h_p, h_s⟩ := (S5_0D.out _).1 hS
        clear hS
        have hb := below_new wA (.cells #[.slice none 0 0] 31)
        have hX' := Blk.new wA 31 #[.slice none 0 0]
        have hg' := h_u.size
        have hgx' := h_x.lt
        have hgy' := h_y.lt
        go_simp
        obtain ⟨g4, hgg⟩ : ∃ g, wA.heap.size = g := ⟨_, rfl⟩
        rw [hgg] at hX' hg' hgx' hgy'
        simp only [hgg]
        obtain ⟨S5_1, S5_1D⟩ : ∃ S : World → Prop, Go.RowKit.Hid (∀ w' : World, S w' ↔ ((Blk w' w.heap.size 37 #[.int .i64 6, .int .i64 a, .int .i64 b, wv N, .int .i64 K, .string ⟨s.toArray⟩]) ∧ (RowS base hi w' rb gp cp gd cd xs xs P D) ∧ (Below w.heap.size w w') ∧ (Blk w' g7 26 #[.slice A1 n1 c1]) ∧ (Blk w' g8 26 #[.slice A2 n2 c2]) ∧ (Blk w' g9 31 #[.slice B1 m1 d1]) ∧ (Blk w' g10 31 #[.slice B2 m2 d2]) ∧ (Ans X no w' A3 n3 c3 er) ∧ (Blk w' g1 26 #[.slice A3 n3 c3]) ∧ (Blk w' g4 31 #[.slice none 0 0] ∧ w.heap.size ≤ g4 ∧ g9 < g4 ∧ g10 < g4))) := ⟨_, Lib.hid (fun _ => Iff.rfl)⟩
        refine Moved.keep S5_1 (fun W W' h hb => by obtain ⟨h_o, h_r, h_u, h_n, h_m, h_x, h_y, h_p, h_s, h_g⟩ := (S5_1D.out _).1 h; exact (S5_1D.out _).2 ⟨h_o.below hb h_o.lt, h_r.below hb, keepb h_u hb, h_n.below hb h_n.lt, h_m.below hb h_m.lt, h_x.below hb h_x.lt, h_y.below hb h_y.lt, h_p.below hb, h_s.below hb h_s.lt, ⟨h_g.1.below hb h_g.1.lt, h_g.2⟩⟩) (fun W h => by obtain ⟨h_o, h_r, h_u, h_n, h_m, h_x, h_y, h_p, h_s, h_g⟩ := (S5_1D.out _).1 h; exact (S5_0D.out _).2 ⟨h_o, h_r, h_u, h_n, h_m, h_x, h_y, h_p, h_s⟩) ((S5_1D.out _).2 ⟨h_o.below hb h_o.lt, h_r.below hb, keepb h_u hb, h_n.below hb h_n.lt, h_m.below hb h_m.lt, h_x.below hb h_x.lt, h_y.below hb h_y.lt, h_p.below hb, h_s.below hb h_s.lt, ⟨hX', hg', hgx', hgy'⟩⟩) ?_
        clear h_o h_r h_u h_n h_m h_x h_y h_p h_s
        clear hb hX' hg' hgx' hgy' hgg
        try simp only [Act.put, List.setIfInBounds_toArray, List.set_cons_zero, List.set_cons_succ]
        refine Way.move 3 (by rfl) (by kernel_rfl) (by rfl) (fun wA hS => ?_)
        obtain ⟨h_o, h_r, h_u, h_n, h_m, h_x, h_y, h_p, h_s, h_g⟩ := (S5_1D.out _).1 hS
        clear hS
        go_simp
        refine (HRF.out _).mono ?_
        rintro e wN ⟨A5, n5, c5, rfl, hl, hb⟩
        refine ⟨_, rfl, ?_⟩
        obtain ⟨S5_2, S5_2D⟩ : ∃ S : World → Prop, Go.RowKit.Hid (∀ w' : World, S w' ↔ ((Blk w' w.heap.size 37 #[.int .i64 6, .int .i64 a, .int .i64 b, wv N, .int .i64 K, .string ⟨s.toArray⟩]) ∧ (RowS base hi w' rb gp cp gd cd xs xs P D) ∧ (Below w.heap.size w w') ∧ (Blk w' g7 26 #[.slice A1 n1 c1]) ∧ (Blk w' g8 26 #[.slice A2 n2 c2]) ∧ (Blk w' g9 31 #[.slice B1 m1 d1]) ∧ (Blk w' g10 31 #[.slice B2 m2 d2]) ∧ (Ans X no w' A3 n3 c3 er) ∧ (Blk w' g1 26 #[.slice A3 n3 c3]) ∧ (Blk w' g4 31 #[.slice none 0 0] ∧ w.heap.size ≤ g4 ∧ g9 < g4 ∧ g10 < g4) ∧ (RatL w' A5 n5 c5 N))) := ⟨_, Lib.hid (fun _ => Iff.rfl)⟩
        refine Moved.keep S5_2 (fun W W' h hb => by obtain ⟨h_o, h_r, h_u, h_n, h_m, h_x, h_y, h_p, h_s, h_g, h_w⟩ := (S5_2D.out _).1 h; exact (S5_2D.out _).2 ⟨h_o.below hb h_o.lt, h_r.below hb, keepb h_u hb, h_n.below hb h_n.lt, h_m.below hb h_m.lt, h_x.below hb h_x.lt, h_y.below hb h_y.lt, h_p.below hb, h_s.below hb h_s.lt, ⟨h_g.1.below hb h_g.1.lt, h_g.2⟩, h_w.below hb⟩) (fun W h => by obtain ⟨h_o, h_r, h_u, h_n, h_m, h_x, h_y, h_p, h_s, h_g, h_w⟩ := (S5_2D.out _).1 h; exact (S5_1D.out _).2 ⟨h_o, h_r, h_u, h_n, h_m, h_x, h_y, h_p, h_s, h_g⟩) ((S5_2D.out _).2 ⟨h_o.below hb h_o.lt, h_r.below hb, keepb h_u hb, h_n.below hb h_n.lt, h_m.below hb h_m.lt, h_x.below hb h_x.lt, h_y.below hb h_y.lt, h_p.below hb, h_s.below hb h_s.lt, ⟨h_g.1.below hb h_g.1.lt, h_g.2⟩, hl⟩) ?_
        clear h_o h_r h_u h_n h_m h_x h_y h_p h_s h_g
        clear hl hb
        try simp only [Act.put, List.setIfInBounds_toArray, List.set_cons_zero, List.set_cons_succ]
        refine Way.move 4 (by rfl) (by kernel_rfl) (by rfl) (fun wA hS => ?_)
        obtain ⟨h_o, h_r, h_u, h_n, h_m, h_x, h_y, h_p, h_s, h_g, h_w⟩ := (S5_2D.out _).1 hS
        clear hS
        go_simp
        refine (HREF.out _ _ h_u h_w.w).mono ?_
        rintro e wN ⟨A4, n4, c4, rfl, hl, hb⟩
        refine ⟨_, rfl, ?_⟩
        obtain ⟨S5_3, S5_3D⟩ : ∃ S : World → Prop, Go.RowKit.Hid (∀ w' : World, S w' ↔ ((Blk w' w.heap.size 37 #[.int .i64 6, .int .i64 a, .int .i64 b, wv N, .int .i64 K, .string ⟨s.toArray⟩]) ∧ (RowS base hi w' rb gp cp gd cd xs xs P D) ∧ (Below w.heap.size w w') ∧ (Blk w' g7 26 #[.slice A1 n1 c1]) ∧ (Blk w' g8 26 #[.slice A2 n2 c2]) ∧ (Blk w' g9 31 #[.slice B1 m1 d1]) ∧ (Blk w' g10 31 #[.slice B2 m2 d2]) ∧ (Ans X no w' A3 n3 c3 er) ∧ (Blk w' g1 26 #[.slice A3 n3 c3]) ∧ (Blk w' g4 31 #[.slice none 0 0] ∧ w.heap.size ≤ g4 ∧ g9 < g4 ∧ g10 < g4) ∧ (RatL w' A5 n5 c5 N) ∧ (RatL w' A4 n4 c4 X))) := ⟨_, Lib.hid (fun _ => Iff.rfl)⟩
        refine Moved.keep S5_3 (fun W W' h hb => by obtain ⟨h_o, h_r, h_u, h_n, h_m, h_x, h_y, h_p, h_s, h_g, h_w, h_d⟩ := (S5_3D.out _).1 h; exact (S5_3D.out _).2 ⟨h_o.below hb h_o.lt, h_r.below hb, keepb h_u hb, h_n.below hb h_n.lt, h_m.below hb h_m.lt, h_x.below hb h_x.lt, h_y.below hb h_y.lt, h_p.below hb, h_s.below hb h_s.lt, ⟨h_g.1.below hb h_g.1.lt, h_g.2⟩, h_w.below hb, h_d.below hb⟩) (fun W h => by obtain ⟨h_o, h_r, h_u, h_n, h_m, h_x, h_y, h_p, h_s, h_g, h_w, h_d⟩ := (S5_3D.out _).1 h; exact (S5_2D.out _).2 ⟨h_o, h_r, h_u, h_n, h_m, h_x, h_y, h_p, h_s, h_g, h_w⟩) ((S5_3D.out _).2 ⟨h_o.below hb h_o.lt, h_r.below hb, keepb h_u hb, h_n.below hb h_n.lt, h_m.below hb h_m.lt, h_x.below hb h_x.lt, h_y.below hb h_y.lt, h_p.below hb, h_s.below hb h_s.lt, ⟨h_g.1.below hb h_g.1.lt, h_g.2⟩, h_w.below hb, hl⟩) ?_
        clear h_o h_r h_u h_n h_m h_x h_y h_p h_s h_g h_w
        clear hl hb
        try simp only [Act.put, List.setIfInBounds_toArray, List.set_cons_zero, List.set_cons_succ]
        refine Way.move 6 (by rfl) (by kernel_rfl) (by rfl) (fun wA hS => ?_)
        obtain ⟨h_o, h_r, h_u, h_n, h_m, h_x, h_y, h_p, h_s, h_g, h_w, h_d⟩ := (S5_3D.out _).1 hS
        clear hS
        have f1 := h_g.1.frozen 0
        have k1 := h_g.1.cell 0
        simp at k1
        go_simp
        have ho1 := h_r.hrb
        have ho2 := h_r.hgp
        have ho3 := h_r.hgd
        have ho4 := HHI.out
        have ho5 := h_g.2.1
        obtain ⟨S5_4, S5_4D⟩ : ∃ S : World → Prop, Go.RowKit.Hid (∀ w' : World, S w' ↔ ((Blk w' g4 31 #[.slice A4 n4 c4]) ∧ (RatL w' A4 n4 c4 X) ∧ (Blk w' w.heap.size 37 #[.int .i64 6, .int .i64 a, .int .i64 b, wv N, .int .i64 K, .string ⟨s.toArray⟩]) ∧ (RowS base hi w' rb gp cp gd cd xs xs P D) ∧ (Below w.heap.size w w') ∧ (Blk w' g7 26 #[.slice A1 n1 c1]) ∧ (Blk w' g8 26 #[.slice A2 n2 c2]) ∧ (Blk w' g9 31 #[.slice B1 m1 d1]) ∧ (Blk w' g10 31 #[.slice B2 m2 d2]) ∧ (Ans X no w' A3 n3 c3 er) ∧ (Blk w' g1 26 #[.slice A3 n3 c3]))) := ⟨_, Lib.hid (fun _ => Iff.rfl)⟩
        refine Moved.turn S5_4 (fun W W' h hb => by obtain ⟨h_t, h_d, h_o, h_r, h_u, h_n, h_m, h_x, h_y, h_p, h_s⟩ := (S5_4D.out _).1 h; exact (S5_4D.out _).2 ⟨h_t.below hb h_t.lt, h_d.below hb, h_o.below hb h_o.lt, h_r.below hb, keepb h_u hb, h_n.below hb h_n.lt, h_m.below hb h_m.lt, h_x.below hb h_x.lt, h_y.below hb h_y.lt, h_p.below hb, h_s.below hb h_s.lt⟩) (by kernel_rfl) ((S5_4D.out _).2 ⟨h_g.1.set1 0 _, h_d.set h_g.1 (by decide) _, (Blk.apart_far h_o h_g.1 (by decide) _), h_r.farr (by first | (simp; omega) | omega) h_g.1 (by decide) (by decide) _, h_u.setCell (by first | (dsimp only; omega) | (simp; done) | (simp; omega)) _, (Blk.apart_far h_n h_g.1 (by decide) _), (Blk.apart_far h_m h_g.1 (by decide) _), h_x.far (Nat.ne_of_lt h_g.2.2.1) _, h_y.far (Nat.ne_of_lt h_g.2.2.2) _, h_p.set h_g.1 (by decide) _, (Blk.apart_far h_s h_g.1 (by decide) _)⟩) ?_
        clear h_o h_r h_u h_n h_m h_x h_y h_p h_s h_g h_w h_d
        try simp only [Act.put, List.setIfInBounds_toArray, List.set_cons_zero, List.set_cons_succ]
        clear ho1 ho2 ho3 ho4 ho5 f1 k1
        refine Way.done (by kernel_rfl) (fun wE hS => ?_)
        obtain ⟨h_t, h_d, h_o, h_r, h_u, h_n, h_m, h_x, h_y, h_p, h_s⟩ := (S5_4D.out _).1 hS
        have H_t := Lib.hid h_t
        have H_d := Lib.hid h_d
        have H_o := Lib.hid h_o
        have H_r := Lib.hid h_r
        have H_u := Lib.hid h_u
        have H_n := Lib.hid h_n
        have H_m := Lib.hid h_m
        have H_x := Lib.hid h_x
        have H_y := Lib.hid h_y
        have H_p := Lib.hid h_p
        have H_s := Lib.hid h_s
        clear hS h_t h_d h_o h_r h_u h_n h_m h_x h_y h_p h_s
        go_wp2_with fail
        go_meet
        exact ⟨_, _, _, _, rfl, H_t.out, H_d.out, H_o.out, H_r.out, H_u.out, H_n.out, H_m.out, H_x.out, H_y.out, H_p.out, H_s.out⟩
    case rest =>
    obtain ⟨g4, A4, n4, c4, rfl, kt, kd, ko, kr, ku, kn, km, kx, ky, kp, ks⟩ := hcut
    have H_o := Lib.hid ko
    have H_r := Lib.hid kr
    have H_u := Lib.hid ku
    have H_n := Lib.hid kn
    have H_m := Lib.hid km
    have H_x := Lib.hid kx
    have H_y := Lib.hid ky
    have H_p := Lib.hid kp
    have H_s := Lib.hid ks
    have H_t := Lib.hid kt
    have H_d := Lib.hid kd
    clear kt kd ko kr ku kn km kx ky kp ks
    go_upto_region 20 with fail
    obtain ⟨S6_0, S6_0D⟩ : ∃ S : World → Prop, Go.RowKit.Hid (∀ w' : World, S w' ↔ ((Blk w' w.heap.size 37 #[.int .i64 6, .int .i64 a, .int .i64 b, wv N, .int .i64 K, .string ⟨s.toArray⟩]) ∧ (RowS base hi w' rb gp cp gd cd xs xs P D) ∧ (Below w.heap.size w w') ∧ (Blk w' g7 26 #[.slice A1 n1 c1]) ∧ (Blk w' g8 26 #[.slice A2 n2 c2]) ∧ (Blk w' g9 31 #[.slice B1 m1 d1]) ∧ (Blk w' g10 31 #[.slice B2 m2 d2]) ∧ (Ans X no w' A3 n3 c3 er) ∧ (Blk w' g1 26 #[.slice A3 n3 c3]) ∧ (Blk w' g4 31 #[.slice A4 n4 c4]) ∧ (RatL w' A4 n4 c4 X))) := ⟨_, Lib.hid (fun _ => Iff.rfl)⟩
    refine wp_region_way (S := S6_0) (by kernel_rfl) (by kernel_rfl) (fun W W' h hb => by obtain ⟨h_o, h_r, h_u, h_n, h_m, h_x, h_y, h_p, h_s, h_t, h_d⟩ := (S6_0D.out _).1 h; exact (S6_0D.out _).2 ⟨h_o.below hb h_o.lt, h_r.below hb, keepb h_u hb, h_n.below hb h_n.lt, h_m.below hb h_m.lt, h_x.below hb h_x.lt, h_y.below hb h_y.lt, h_p.below hb, h_s.below hb h_s.lt, h_t.below hb h_t.lt, h_d.below hb⟩) ((S6_0D.out _).2 ⟨H_o.out.below (Below.refl wc.heap.size wc).drew H_o.out.lt, H_r.out.below (Below.refl wc.heap.size wc).drew, keepb H_u.out (Below.refl wc.heap.size wc).drew, H_n.out.below (Below.refl wc.heap.size wc).drew H_n.out.lt, H_m.out.below (Below.refl wc.heap.size wc).drew H_m.out.lt, H_x.out.below (Below.refl wc.heap.size wc).drew H_x.out.lt, H_y.out.below (Below.refl wc.heap.size wc).drew H_y.out.lt, H_p.out.below (Below.refl wc.heap.size wc).drew, H_s.out.below (Below.refl wc.heap.size wc).drew H_s.out.lt, H_t.out.below (Below.refl wc.heap.size wc).drew H_t.out.lt, H_d.out.below (Below.refl wc.heap.size wc).drew⟩) ?_
    first
      | (refine Way.no 0 (by rfl) (by kernel_rfl) (by rfl) ?_; simp only [Act.put, List.setIfInBounds_toArray, List.set_cons_zero, List.set_cons_succ])
      | (refine' Way.yes 0 (by rfl) (by kernel_rfl) (by rfl) (fun wS hS => ?_) ?_
         rotate_left
         · obtain ⟨h_o, h_r, h_u, h_n, h_m, h_x, h_y, h_p, h_s, h_t, h_d⟩ := (S6_0D.out _).1 hS
           have cs := h_s.cell 0
           have ct := h_t.cell 0
           simp at cs ct
           go_simp
           first
             | exact ⟨rfl, Below.refl _ _⟩
         simp only [Act.put, List.setIfInBounds_toArray, List.set_cons_zero, List.set_cons_succ])
    first
      | (refine Way.no 1 (by rfl) (by kernel_rfl) (by rfl) ?_; simp only [Act.put, List.setIfInBounds_toArray, List.set_cons_zero, List.set_cons_succ])
      | (refine' Way.yes 1 (by rfl) (by kernel_rfl) (by rfl) (fun wS hS => ?_) ?_
         rotate_left
         · obtain ⟨h_o, h_r, h_u, h_n, h_m, h_x, h_y, h_p, h_s, h_t, h_d⟩ := (S6_0D.out _).1 hS
           have cs := h_s.cell 0
           have ct := h_t.cell 0
           simp at cs ct
           go_simp
           first
             | exact ⟨rfl, Below.refl _ _⟩
         simp only [Act.put, List.setIfInBounds_toArray, List.set_cons_zero, List.set_cons_succ])
    first
      | (refine Way.no 2 (by rfl) (by kernel_rfl) (by rfl) ?_; simp only [Act.put, List.setIfInBounds_toArray, List.set_cons_zero, List.set_cons_succ])
      | (refine' Way.yes 2 (by rfl) (by kernel_rfl) (by rfl) (fun wS hS => ?_) ?_
         rotate_left
         · obtain ⟨h_o, h_r, h_u, h_n, h_m, h_x, h_y, h_p, h_s, h_t, h_d⟩ := (S6_0D.out _).1 hS
           have cs := h_s.cell 0
           have ct := h_t.cell 0
           simp at cs ct
           go_simp
           first
             | exact ⟨rfl, Below.refl _ _⟩
         simp only [Act.put, List.setIfInBounds_toArray, List.set_cons_zero, List.set_cons_succ])
    first
      | (refine Way.no 3 (by rfl) (by kernel_rfl) (by rfl) ?_; simp only [Act.put, List.setIfInBounds_toArray, List.set_cons_zero, List.set_cons_succ])
      | (refine' Way.yes 3 (by rfl) (by kernel_rfl) (by rfl) (fun wS hS => ?_) ?_
         rotate_left
         · obtain ⟨h_o, h_r, h_u, h_n, h_m, h_x, h_y, h_p, h_s, h_t, h_d⟩ := (S6_0D.out _).1 hS
           have cs := h_s.cell 0
           have ct := h_t.cell 0
           simp at cs ct
           go_simp
           first
             | exact ⟨rfl, Below.refl _ _⟩
         simp only [Act.put, List.setIfInBounds_toArray, List.set_cons_zero, List.set_cons_succ])
    first
      | (refine Way.no 4 (by rfl) (by kernel_rfl) (by rfl) ?_; simp only [Act.put, List.setIfInBounds_toArray, List.set_cons_zero, List.set_cons_succ])
      | (refine' Way.yes 4 (by rfl) (by kernel_rfl) (by rfl) (fun wS hS => ?_) ?_
         rotate_left
         · obtain ⟨h_o, h_r, h_u, h_n, h_m, h_x, h_y, h_p, h_s, h_t, h_d⟩ := (S6_0D.out _).1 hS
           have cs := h_s.cell 0
           have ct := h_t.cell 0
           simp at cs ct
           go_simp
           first
             | exact ⟨rfl, Below.refl _ _⟩
         simp only [Act.put, List.setIfInBounds_toArray, List.set_cons_zero, List.set_cons_succ])
    refine' Way.yes (v := .bool G) 5 (by rfl) (by kernel_rfl) (by rfl) (fun wS hS => ?_) ?_
    · obtain ⟨h_o, h_r, h_u, h_n, h_m, h_x, h_y, h_p, h_s, h_t, h_d⟩ := (S6_0D.out _).1 hS
      go_simp
      exact (HOV.out _ _ h_d.w).mono fun e w2 h => h
    simp only [Act.put, List.setIfInBounds_toArray, List.set_cons_zero, List.set_cons_succ]
    first
      | (refine Way.no 6 (by rfl) (by kernel_rfl) (by rfl) ?_; simp only [Act.put, List.setIfInBounds_toArray, List.set_cons_zero, List.set_cons_succ])
      | (refine' Way.yes 6 (by rfl) (by kernel_rfl) (by rfl) (fun wS hS => ?_) ?_
         rotate_left
         · obtain ⟨h_o, h_r, h_u, h_n, h_m, h_x, h_y, h_p, h_s, h_t, h_d⟩ := (S6_0D.out _).1 hS
           go_simp
           first
             | exact ⟨rfl, Below.refl _ _⟩
         simp only [Act.put, List.setIfInBounds_toArray, List.set_cons_zero, List.set_cons_succ])
    refine' Way.yes (v := .int .i64 no) 7 (by rfl) (by kernel_rfl) (by rfl) (fun wS hS => ?_) ?_
    · obtain ⟨h_o, h_r, h_u, h_n, h_m, h_x, h_y, h_p, h_s, h_t, h_d⟩ := (S6_0D.out _).1 hS
      go_simp
      exact (HLS.out _).mono fun e w2 h => h
    simp only [Act.put, List.setIfInBounds_toArray, List.set_cons_zero, List.set_cons_succ]
    refine Way.move 8 (by rfl) (by kernel_rfl) (by rfl) (fun wA hS => ?_)
    obtain ⟨h_o, h_r, h_u, h_n, h_m, h_x, h_y, h_p, h_s, h_t, h_d⟩ := (S6_0D.out _).1 hS
    clear hS
    go_simp
    refine (HPUT.out X no A3 A4 n3 c3 n4 c4 er _ ⟨_, _, _, _, _, _, h_r⟩ h_p (fun _ => h_d)).mono ?_
    rintro e wN ⟨rfl, hz, _, hbe⟩
    refine ⟨_, rfl, ?_⟩
    obtain ⟨S6_1, S6_1D⟩ : ∃ S : World → Prop, Go.RowKit.Hid (∀ w' : World, S w' ↔ ((∃ h2 ys, xs.length ≤ ys.length ∧ ys.length ≤ xs.length + 1 ∧ Row base h2 w' rb ys) ∧ (Below base w w' ∧ base ≤ w'.heap.size))) := ⟨_, Lib.hid (fun _ => Iff.rfl)⟩
    refine Moved.turn S6_1 (fun W W' h hb => by obtain ⟨h_z, h_e⟩ := (S6_1D.out _).1 h; exact (S6_1D.out _).2 ⟨(by obtain ⟨h2, ys, h3, h4, h5⟩ := h_z; exact ⟨h2, ys, h3, h4, h5.below hb⟩), ⟨h_e.1.trans (hb.mono h_e.2), Nat.le_trans h_e.2 hb.size⟩⟩) (by kernel_rfl) ((S6_1D.out _).2 ⟨hz, ⟨(h_u.mono HBL.out).trans hbe, by obtain ⟨_, _, _, _, h⟩ := hz; exact h.base_le⟩⟩) ?_
    clear h_o h_r h_u h_n h_m h_x h_y h_p h_s h_t h_d
    try simp only [Act.put, List.setIfInBounds_toArray, List.set_cons_zero, List.set_cons_succ]
    clear hz hbe
    first
      | (refine Way.no 9 (by rfl) (by kernel_rfl) (by rfl) ?_; simp only [Act.put, List.setIfInBounds_toArray, List.set_cons_zero, List.set_cons_succ])
      | (refine' Way.yes 9 (by rfl) (by kernel_rfl) (by rfl) (fun wS hS => ?_) ?_
         rotate_left
         · obtain ⟨h_z, h_e⟩ := (S6_1D.out _).1 hS
           go_simp
           first
             | exact ⟨rfl, Below.refl _ _⟩
         simp only [Act.put, List.setIfInBounds_toArray, List.set_cons_zero, List.set_cons_succ])
    refine Way.done (by kernel_rfl) (fun wE hS => ?_)
    obtain ⟨h_z, h_e⟩ := (S6_1D.out _).1 hS
    have H_z := Lib.hid h_z
    have H_e := Lib.hid h_e
    clear hS h_z h_e
    go_wp2_with fail
    go_ret
    obtain ⟨h2, ys, h3, h4, h5⟩ := H_z.out
    exact ⟨rfl, ⟨h2, ys, h3, by omega, h5⟩, H_e.out.1⟩
  · rcases Nat.eq_zero_or_pos y with hy0 | hy0
    · subst hy0
      have hm0 : m2 = 0 := HZ2.out.2 rfl
      have HDZ := Lib.hid (fun W (hb : Below w.heap.size w W) => div_zero _ _ x W (HN1.out W hb) (HN2.out W hb))
      have HNO := Lib.hid (fun W => number_yes 13 W)
      have HTX := Lib.hid (fun W => text_nat nilN 0 W (NatW.nil W) (by decide))
      rw [dtext_zero] at HTX
      have tm : ((m2 : Int) == 0) = true := by rw [hm0]; rfl
      clear hm0
      have fk := H_o.out.cell 0
      simp only [List.getElem?_toArray, List.getElem?_cons_zero, List.getElem?_cons_succ] at fk
      have fn := H_n.out.cell 0
      simp only [List.getElem?_toArray, List.getElem?_cons_zero, List.getElem?_cons_succ] at fn
      have fm := H_m.out.cell 0
      simp only [List.getElem?_toArray, List.getElem?_cons_zero, List.getElem?_cons_succ] at fm
      go_wp2_with fail
      refine (HDZ.out _ H_u.out).mono ?_
      rintro e w1 ⟨rfl, hb⟩
      clear fk fn fm
      have K_o := Lib.hid (show Blk w1 w.heap.size 37 #[.int .i64 7, .int .i64 a, .int .i64 b, wv N, .int .i64 K, .string ⟨s.toArray⟩] from H_o.out.below hb H_o.out.lt)
      have K_r := Lib.hid (show RowS base hi w1 rb gp cp gd cd xs xs P D from H_r.out.below hb)
      have K_u := Lib.hid (show Below w.heap.size w w1 from keepb H_u.out hb)
      have K_n := Lib.hid (show Blk w1 g7 26 #[.slice A1 n1 c1] from H_n.out.below hb H_n.out.lt)
      have K_m := Lib.hid (show Blk w1 g8 26 #[.slice A2 n2 c2] from H_m.out.below hb H_m.out.lt)
      have K_x := Lib.hid (show Blk w1 g9 31 #[.slice B1 m1 d1] from H_x.out.below hb H_x.out.lt)
      have K_y := Lib.hid (show Blk w1 g10 31 #[.slice B2 m2 d2] from H_y.out.below hb H_y.out.lt)
      clear hb H_o H_r H_u H_n H_m H_x H_y
      go_upto_region 23 with fail
      obtain ⟨V1, hV1⟩ : ∃ V, ((w1.alloc (.cells #[.slice none 0 0] 26)).alloc (.cells #[.slice none 0 0] 26)) = V := ⟨_, rfl⟩
      have hbn : Below w1.heap.size w1 V1 := by rw [← hV1]; go_grown
      have H_o := Lib.hid (show Blk V1 w.heap.size 37 #[.int .i64 7, .int .i64 a, .int .i64 b, wv N, .int .i64 K, .string ⟨s.toArray⟩] from K_o.out.below hbn K_o.out.lt)
      have H_r := Lib.hid (show RowS base hi V1 rb gp cp gd cd xs xs P D from K_r.out.below hbn)
      have H_u := Lib.hid (show Below w.heap.size w V1 from keepb K_u.out hbn)
      have H_n := Lib.hid (show Blk V1 g7 26 #[.slice A1 n1 c1] from K_n.out.below hbn K_n.out.lt)
      have H_m := Lib.hid (show Blk V1 g8 26 #[.slice A2 n2 c2] from K_m.out.below hbn K_m.out.lt)
      have H_x := Lib.hid (show Blk V1 g9 31 #[.slice B1 m1 d1] from K_x.out.below hbn K_x.out.lt)
      have H_y := Lib.hid (show Blk V1 g10 31 #[.slice B2 m2 d2] from K_y.out.below hbn K_y.out.lt)
      have B_s := Lib.hid (show Blk V1 w1.heap.size 26 #[.slice none 0 0] from by rw [← hV1]; exact (Blk.new w1 26 #[.slice none 0 0]).alloc _)
      have B_t := Lib.hid (show Blk V1 (w1.heap.size + 1) 26 #[.slice none 0 0] from by rw [← hV1]; exact (show Blk ((w1.alloc (.cells #[.slice none 0 0] 26)).alloc (.cells #[.slice none 0 0] 26)) (w1.heap.size + 1) 26 #[.slice none 0 0] from by have h := Blk.new (w1.alloc (.cells #[.slice none 0 0] 26)) 26 #[.slice none 0 0]; rwa [World.size_alloc] at h))
      obtain ⟨g1, hg1⟩ : ∃ g, w1.heap.size = g := ⟨_, rfl⟩
      simp only [hV1, hg1] at B_s B_t ⊢
      have H_s := B_s
      have H_t := B_t
      clear hV1 hg1 hbn K_o K_r K_u K_n K_m K_x K_y B_s B_t
      have fy := H_y.out.cell 0
      simp only [List.getElem?_toArray, List.getElem?_cons_zero, List.getElem?_cons_succ] at fy
      have fs := H_s.out.cell 0
      simp only [List.getElem?_toArray, List.getElem?_cons_zero, List.getElem?_cons_succ] at fs
      have ft := H_t.out.cell 0
      simp only [List.getElem?_toArray, List.getElem?_cons_zero, List.getElem?_cons_succ] at ft
      go_wp2_with fail
      refine (HNO.out _).mono ?_
      rintro e w8 ⟨rfl, rfl⟩
      go_wp2_with fail
      refine (HTX.out _).mono ?_
      rintro e w2 ⟨rfl, hb⟩
      clear fy fs ft
      have K_o := Lib.hid (show Blk w2 w.heap.size 37 #[.int .i64 7, .int .i64 a, .int .i64 b, wv N, .int .i64 K, .string ⟨s.toArray⟩] from H_o.out.below hb H_o.out.lt)
      have K_r := Lib.hid (show RowS base hi w2 rb gp cp gd cd xs xs P D from H_r.out.below hb)
      have K_u := Lib.hid (show Below w.heap.size w w2 from keepb H_u.out hb)
      have K_n := Lib.hid (show Blk w2 g7 26 #[.slice A1 n1 c1] from H_n.out.below hb H_n.out.lt)
      have K_m := Lib.hid (show Blk w2 g8 26 #[.slice A2 n2 c2] from H_m.out.below hb H_m.out.lt)
      have K_x := Lib.hid (show Blk w2 g9 31 #[.slice B1 m1 d1] from H_x.out.below hb H_x.out.lt)
      have K_y := Lib.hid (show Blk w2 g10 31 #[.slice B2 m2 d2] from H_y.out.below hb H_y.out.lt)
      have K_s := Lib.hid (show Blk w2 g1 26 #[.slice none 0 0] from H_s.out.below hb H_s.out.lt)
      have K_t := Lib.hid (show Blk w2 (g1 + 1) 26 #[.slice none 0 0] from H_t.out.below hb H_t.out.lt)
      clear hb H_o H_r H_u H_n H_m H_x H_y H_s H_t
      have H_o := K_o
      have H_r := K_r
      have H_u := K_u
      have H_n := K_n
      have H_m := K_m
      have H_x := K_x
      have H_y := K_y
      have H_s := K_s
      have H_t := K_t
      clear K_o K_r K_u K_n K_m K_x K_y K_s K_t
      have ft := H_t.out.cell 0
      simp only [List.getElem?_toArray, List.getElem?_cons_zero, List.getElem?_cons_succ] at ft
      go_wp2_with fail
      refine (HTX.out _).mono ?_
      rintro e w3 ⟨rfl, hb⟩
      clear ft
      have K_o := Lib.hid (show Blk w3 w.heap.size 37 #[.int .i64 7, .int .i64 a, .int .i64 b, wv N, .int .i64 K, .string ⟨s.toArray⟩] from H_o.out.below hb H_o.out.lt)
      have K_r := Lib.hid (show RowS base hi w3 rb gp cp gd cd xs xs P D from H_r.out.below hb)
      have K_u := Lib.hid (show Below w.heap.size w w3 from keepb H_u.out hb)
      have K_n := Lib.hid (show Blk w3 g7 26 #[.slice A1 n1 c1] from H_n.out.below hb H_n.out.lt)
      have K_m := Lib.hid (show Blk w3 g8 26 #[.slice A2 n2 c2] from H_m.out.below hb H_m.out.lt)
      have K_x := Lib.hid (show Blk w3 g9 31 #[.slice B1 m1 d1] from H_x.out.below hb H_x.out.lt)
      have K_y := Lib.hid (show Blk w3 g10 31 #[.slice B2 m2 d2] from H_y.out.below hb H_y.out.lt)
      have K_s := Lib.hid (show Blk w3 g1 26 #[.slice none 0 0] from H_s.out.below hb H_s.out.lt)
      have K_t := Lib.hid (show Blk w3 (g1 + 1) 26 #[.slice none 0 0] from H_t.out.below hb H_t.out.lt)
      clear hb H_o H_r H_u H_n H_m H_x H_y H_s H_t
      have H_o := K_o
      have H_r := K_r
      have H_u := K_u
      have H_n := K_n
      have H_m := K_m
      have H_x := K_x
      have H_y := K_y
      have H_s := K_s
      have H_t := K_t
      clear K_o K_r K_u K_n K_m K_x K_y K_s K_t
      go_wp2_with fail
      go_ret
      exact ⟨rfl, ⟨hi, xs, Nat.le_refl _, by omega, ⟨_, _, _, _, _, _, H_r.out⟩⟩, H_u.out.mono HBL.out⟩
    · have hm0 : m2 ≠ 0 := fun h => by have := HZ2.out.1 h; omega
      have tm : ((m2 : Int) == 0) = false := by rw [beq_eq_false_iff_ne]; omega
      have HDV := Lib.hid (fun W (hb : Below w.heap.size w W) => div_nat _ _ x y W (HN1.out W hb) (HN2.out W hb) (by have := HX.out; rw [HMM.out] at this; omega) (by have := HYY.out; rw [HMM.out] at this; omega) hy0)
      have HQU := Lib.hid (fun W (hb : Below w.heap.size w W) => rquot_core _ _ x y m4 Y Z W (HR1.out W hb) (HR2.out W hb) (blen_b4 HX.out HMM.out HM4.out) (blen_b4 HYY.out HMM.out HM4.out) hy0 (by have := HM4.out; omega) HY.out HZ.out)
      have HXQ : Hid (blen (x / y) ≤ 8192) := Lib.hid (Nat.le_trans (blen_mono (Nat.div_le_self _ _)) (by have := HX.out; rw [HMM.out] at this; exact this))
      have HXR : Hid (blen (x % y) ≤ 8192) := Lib.hid (Nat.le_trans (blen_mono (Nat.mod_le _ _)) (by have := HX.out; rw [HMM.out] at this; exact this))
      clear hy0 hm0
      have fk := H_o.out.cell 0
      simp only [List.getElem?_toArray, List.getElem?_cons_zero, List.getElem?_cons_succ] at fk
      have fn := H_n.out.cell 0
      simp only [List.getElem?_toArray, List.getElem?_cons_zero, List.getElem?_cons_succ] at fn
      have fm := H_m.out.cell 0
      simp only [List.getElem?_toArray, List.getElem?_cons_zero, List.getElem?_cons_succ] at fm
      go_wp2_with fail
      refine (HDV.out _ H_u.out).mono ?_
      rintro e w1 ⟨A3, n3, c3, A5, n5, c5, rfl, hl, hl2, hb⟩
      clear fk fn fm
      have K_o := Lib.hid (show Blk w1 w.heap.size 37 #[.int .i64 7, .int .i64 a, .int .i64 b, wv N, .int .i64 K, .string ⟨s.toArray⟩] from H_o.out.below hb H_o.out.lt)
      have K_r := Lib.hid (show RowS base hi w1 rb gp cp gd cd xs xs P D from H_r.out.below hb)
      have K_u := Lib.hid (show Below w.heap.size w w1 from keepb H_u.out hb)
      have K_n := Lib.hid (show Blk w1 g7 26 #[.slice A1 n1 c1] from H_n.out.below hb H_n.out.lt)
      have K_m := Lib.hid (show Blk w1 g8 26 #[.slice A2 n2 c2] from H_m.out.below hb H_m.out.lt)
      have K_x := Lib.hid (show Blk w1 g9 31 #[.slice B1 m1 d1] from H_x.out.below hb H_x.out.lt)
      have K_y := Lib.hid (show Blk w1 g10 31 #[.slice B2 m2 d2] from H_y.out.below hb H_y.out.lt)
      have K_p := Lib.hid (show NatL w1 A3 n3 c3 (x / y) from hl)
      have K_pp := Lib.hid (show NatL w1 A5 n5 c5 (x % y) from hl2)
      clear hb H_o H_r H_u H_n H_m H_x H_y
      clear hl hl2
      go_upto_region 23 with fail
      obtain ⟨V1, hV1⟩ : ∃ V, ((w1.alloc (.cells #[.slice A3 n3 c3] 26)).alloc (.cells #[.slice A5 n5 c5] 26)) = V := ⟨_, rfl⟩
      have hbn : Below w1.heap.size w1 V1 := by rw [← hV1]; go_grown
      have H_o := Lib.hid (show Blk V1 w.heap.size 37 #[.int .i64 7, .int .i64 a, .int .i64 b, wv N, .int .i64 K, .string ⟨s.toArray⟩] from K_o.out.below hbn K_o.out.lt)
      have H_r := Lib.hid (show RowS base hi V1 rb gp cp gd cd xs xs P D from K_r.out.below hbn)
      have H_u := Lib.hid (show Below w.heap.size w V1 from keepb K_u.out hbn)
      have H_n := Lib.hid (show Blk V1 g7 26 #[.slice A1 n1 c1] from K_n.out.below hbn K_n.out.lt)
      have H_m := Lib.hid (show Blk V1 g8 26 #[.slice A2 n2 c2] from K_m.out.below hbn K_m.out.lt)
      have H_x := Lib.hid (show Blk V1 g9 31 #[.slice B1 m1 d1] from K_x.out.below hbn K_x.out.lt)
      have H_y := Lib.hid (show Blk V1 g10 31 #[.slice B2 m2 d2] from K_y.out.below hbn K_y.out.lt)
      have H_p := Lib.hid (show NatL V1 A3 n3 c3 (x / y) from K_p.out.below hbn)
      have H_pp := Lib.hid (show NatL V1 A5 n5 c5 (x % y) from K_pp.out.below hbn)
      have B_s := Lib.hid (show Blk V1 w1.heap.size 26 #[.slice A3 n3 c3] from by rw [← hV1]; exact (Blk.new w1 26 #[.slice A3 n3 c3]).alloc _)
      have B_t := Lib.hid (show Blk V1 (w1.heap.size + 1) 26 #[.slice A5 n5 c5] from by rw [← hV1]; exact (show Blk ((w1.alloc (.cells #[.slice A3 n3 c3] 26)).alloc (.cells #[.slice A5 n5 c5] 26)) (w1.heap.size + 1) 26 #[.slice A5 n5 c5] from by have h := Blk.new (w1.alloc (.cells #[.slice A3 n3 c3] 26)) 26 #[.slice A5 n5 c5]; rwa [World.size_alloc] at h))
      have L_s := Lib.hid (show hi ≤ w1.heap.size from Nat.le_trans HHI.out K_u.out.size)
      have L_t := Lib.hid (show hi ≤ w1.heap.size + 1 from Nat.le_succ_of_le (Nat.le_trans HHI.out K_u.out.size))
      obtain ⟨g1, hg1⟩ : ∃ g, w1.heap.size = g := ⟨_, rfl⟩
      simp only [hV1, hg1] at B_s B_t L_s L_t ⊢
      have H_s := B_s
      have H_t := B_t
      clear hV1 hg1 hbn K_o K_r K_u K_n K_m K_x K_y K_p K_pp B_s B_t
      have fy := H_y.out.cell 0
      simp only [List.getElem?_toArray, List.getElem?_cons_zero, List.getElem?_cons_succ] at fy
      have fx := H_x.out.cell 0
      simp only [List.getElem?_toArray, List.getElem?_cons_zero, List.getElem?_cons_succ] at fx
      go_wp2_with fail
      refine (HQU.out _ H_u.out).mono ?_
      rintro e w2 ⟨A4, n4, c4, A6, n6, c6, rfl, hl, hl2, hb⟩
      clear fy fx
      have K_o := Lib.hid (show Blk w2 w.heap.size 37 #[.int .i64 7, .int .i64 a, .int .i64 b, wv N, .int .i64 K, .string ⟨s.toArray⟩] from H_o.out.below hb H_o.out.lt)
      have K_r := Lib.hid (show RowS base hi w2 rb gp cp gd cd xs xs P D from H_r.out.below hb)
      have K_u := Lib.hid (show Below w.heap.size w w2 from keepb H_u.out hb)
      have K_n := Lib.hid (show Blk w2 g7 26 #[.slice A1 n1 c1] from H_n.out.below hb H_n.out.lt)
      have K_m := Lib.hid (show Blk w2 g8 26 #[.slice A2 n2 c2] from H_m.out.below hb H_m.out.lt)
      have K_x := Lib.hid (show Blk w2 g9 31 #[.slice B1 m1 d1] from H_x.out.below hb H_x.out.lt)
      have K_y := Lib.hid (show Blk w2 g10 31 #[.slice B2 m2 d2] from H_y.out.below hb H_y.out.lt)
      have K_p := Lib.hid (show NatL w2 A3 n3 c3 (x / y) from H_p.out.below hb)
      have K_pp := Lib.hid (show NatL w2 A5 n5 c5 (x % y) from H_pp.out.below hb)
      have K_s := Lib.hid (show Blk w2 g1 26 #[.slice A3 n3 c3] from H_s.out.below hb H_s.out.lt)
      have K_t := Lib.hid (show Blk w2 (g1 + 1) 26 #[.slice A5 n5 c5] from H_t.out.below hb H_t.out.lt)
      have K_d := Lib.hid (show RatL w2 A4 n4 c4 (x / y) from hl)
      have K_dd := Lib.hid (show RatL w2 A6 n6 c6 (x % y) from hl2)
      clear hb H_o H_r H_u H_n H_m H_x H_y H_p H_pp H_s H_t
      clear hl hl2
      go_upto_region 26 with fail
      obtain ⟨V2, hV2⟩ : ∃ V, ((w2.alloc (.cells #[.slice A4 n4 c4] 31)).alloc (.cells #[.slice A6 n6 c6] 31)) = V := ⟨_, rfl⟩
      have hbn : Below w2.heap.size w2 V2 := by rw [← hV2]; go_grown
      have H_o := Lib.hid (show Blk V2 w.heap.size 37 #[.int .i64 7, .int .i64 a, .int .i64 b, wv N, .int .i64 K, .string ⟨s.toArray⟩] from K_o.out.below hbn K_o.out.lt)
      have H_r := Lib.hid (show RowS base hi V2 rb gp cp gd cd xs xs P D from K_r.out.below hbn)
      have H_u := Lib.hid (show Below w.heap.size w V2 from keepb K_u.out hbn)
      have H_n := Lib.hid (show Blk V2 g7 26 #[.slice A1 n1 c1] from K_n.out.below hbn K_n.out.lt)
      have H_m := Lib.hid (show Blk V2 g8 26 #[.slice A2 n2 c2] from K_m.out.below hbn K_m.out.lt)
      have H_x := Lib.hid (show Blk V2 g9 31 #[.slice B1 m1 d1] from K_x.out.below hbn K_x.out.lt)
      have H_y := Lib.hid (show Blk V2 g10 31 #[.slice B2 m2 d2] from K_y.out.below hbn K_y.out.lt)
      have H_p := Lib.hid (show NatL V2 A3 n3 c3 (x / y) from K_p.out.below hbn)
      have H_pp := Lib.hid (show NatL V2 A5 n5 c5 (x % y) from K_pp.out.below hbn)
      have H_s := Lib.hid (show Blk V2 g1 26 #[.slice A3 n3 c3] from K_s.out.below hbn K_s.out.lt)
      have H_t := Lib.hid (show Blk V2 (g1 + 1) 26 #[.slice A5 n5 c5] from K_t.out.below hbn K_t.out.lt)
      have H_d := Lib.hid (show RatL V2 A4 n4 c4 (x / y) from K_d.out.below hbn)
      have H_dd := Lib.hid (show RatL V2 A6 n6 c6 (x % y) from K_dd.out.below hbn)
      have B_q := Lib.hid (show Blk V2 w2.heap.size 31 #[.slice A4 n4 c4] from by rw [← hV2]; exact (Blk.new w2 31 #[.slice A4 n4 c4]).alloc _)
      have B_v := Lib.hid (show Blk V2 (w2.heap.size + 1) 31 #[.slice A6 n6 c6] from by rw [← hV2]; exact (show Blk ((w2.alloc (.cells #[.slice A4 n4 c4] 31)).alloc (.cells #[.slice A6 n6 c6] 31)) (w2.heap.size + 1) 31 #[.slice A6 n6 c6] from by have h := Blk.new (w2.alloc (.cells #[.slice A4 n4 c4] 31)) 31 #[.slice A6 n6 c6]; rwa [World.size_alloc] at h))
      have L_q := Lib.hid (show hi ≤ w2.heap.size from Nat.le_trans HHI.out K_u.out.size)
      have L_v := Lib.hid (show hi ≤ w2.heap.size + 1 from Nat.le_succ_of_le (Nat.le_trans HHI.out K_u.out.size))
      obtain ⟨g2, hg2⟩ : ∃ g, w2.heap.size = g := ⟨_, rfl⟩
      simp only [hV2, hg2] at B_q B_v L_q L_v ⊢
      have H_q := B_q
      have H_v := B_v
      clear hV2 hg2 hbn K_o K_r K_u K_n K_m K_x K_y K_p K_pp K_s K_t K_d K_dd B_q B_v
      have fs := H_s.out.cell 0
      simp only [List.getElem?_toArray, List.getElem?_cons_zero, List.getElem?_cons_succ] at fs
      have fq := H_q.out.cell 0
      simp only [List.getElem?_toArray, List.getElem?_cons_zero, List.getElem?_cons_succ] at fq
      go_wp2_with fail
      refine (HPUT.out (x / y) 0 A3 A4 n3 c3 n4 c4 .nilIface _ ⟨_, _, _, _, _, _, H_r.out⟩ (.inl ⟨rfl, rfl, H_p.out, HXQ.out⟩) (fun _ => H_d.out)).mono ?_
      rintro e wN ⟨rfl, ⟨h2, ys, h3, h4, h5⟩, hkp, hbe⟩
      clear fs fq
      have J_t := Lib.hid (hkp _ _ _ H_t.out (.inl L_t.out))
      have J_v := Lib.hid (hkp _ _ _ H_v.out (.inl L_v.out))
      have J_p := Lib.hid (hkp.nat H_pp.out)
      have J_d := Lib.hid (hkp.rat H_dd.out)
      have J_r := Lib.hid h5
      have J_b := Lib.hid ((H_u.out.mono HBL.out).trans hbe)
      have J_3 := Lib.hid h3
      have J_4 := Lib.hid h4
      clear hkp hbe h5 h3 h4
      have ft := J_t.out.cell 0
      simp only [List.getElem?_toArray, List.getElem?_cons_zero, List.getElem?_cons_succ] at ft
      have fv2 := J_v.out.cell 0
      simp only [List.getElem?_toArray, List.getElem?_cons_zero, List.getElem?_cons_succ] at fv2
      go_wp2_with fail
      refine (HPUT2.out h2 ys (x % y) 0 A5 A6 n5 c5 n6 c6 .nilIface _ J_4.out J_r.out (.inl ⟨rfl, rfl, J_p.out, HXR.out⟩) (fun _ => J_d.out)).mono ?_
      rintro e wM ⟨rfl, hz, _, hbe⟩
      have H_z := Lib.hid hz
      have H_b := Lib.hid hbe
      clear ft fv2
      clear hz hbe
      go_wp2_with fail
      go_ret
      obtain ⟨h6, zs, h7, h8, h9⟩ := H_z.out
      exact ⟨rfl, ⟨h6, zs, Nat.le_trans J_3.out h7, by have := J_4.out; omega, h9⟩, J_b.out.trans H_b.out⟩
  · have hK := HWK.out
    have HOPN := Lib.hid (fun W (hb : Below w.heap.size w W) => (shl_nat _ x K W (HN1.out W hb) (by have := HX.out; rw [HMM.out] at this; exact this) (wf_le hK)).mono (fun e w' h => NatB.ans h HMM.out))
    have HREF := Lib.hid (fun W (hb : Below w.heap.size w W) => rup_any _ x M m4 Y K W (HR1.out W hb) HMM.out HM4.out HY.out HX.out)
    clear hK
    obtain ⟨X, hX⟩ : ∃ X, x * 2 ^ K.toNat = X := ⟨_, rfl⟩
    rw [hX] at HOPN HREF
    obtain ⟨no, hno⟩ : ∃ no, lessV (!overB X M) 11 = no := ⟨_, rfl⟩
    rw [hno] at HOPN HREF
    clear hX hno
    have fk := H_o.out.cell 0
    simp only [List.getElem?_toArray, List.getElem?_cons_zero, List.getElem?_cons_succ] at fk
    have fn := H_n.out.cell 0
    simp only [List.getElem?_toArray, List.getElem?_cons_zero, List.getElem?_cons_succ] at fn
    have fK := H_o.out.cell 4
    simp only [List.getElem?_toArray, List.getElem?_cons_zero, List.getElem?_cons_succ] at fK
    go_wp2_with fail
    refine (HOPN.out _ H_u.out).mono ?_
    rintro e w1 ⟨A3, n3, c3, er, rfl, ha, hb⟩
    clear fk fn fK
    have K_o := Lib.hid (show Blk w1 w.heap.size 37 #[.int .i64 8, .int .i64 a, .int .i64 b, wv N, .int .i64 K, .string ⟨s.toArray⟩] from H_o.out.below hb H_o.out.lt)
    have K_r := Lib.hid (show RowS base hi w1 rb gp cp gd cd xs xs P D from H_r.out.below hb)
    have K_u := Lib.hid (show Below w.heap.size w w1 from keepb H_u.out hb)
    have K_n := Lib.hid (show Blk w1 g7 26 #[.slice A1 n1 c1] from H_n.out.below hb H_n.out.lt)
    have K_m := Lib.hid (show Blk w1 g8 26 #[.slice A2 n2 c2] from H_m.out.below hb H_m.out.lt)
    have K_x := Lib.hid (show Blk w1 g9 31 #[.slice B1 m1 d1] from H_x.out.below hb H_x.out.lt)
    have K_y := Lib.hid (show Blk w1 g10 31 #[.slice B2 m2 d2] from H_y.out.below hb H_y.out.lt)
    have K_p := Lib.hid (show Ans X no w1 A3 n3 c3 er from ha)
    clear hb H_o H_r H_u H_n H_m H_x H_y
    clear ha
    go_upto_region 29 with fail
    obtain ⟨V1, hV1⟩ : ∃ V, (w1.alloc (.cells #[.slice A3 n3 c3] 26)) = V := ⟨_, rfl⟩
    have hbn : Below w1.heap.size w1 V1 := by rw [← hV1]; go_grown
    have H_o := Lib.hid (show Blk V1 w.heap.size 37 #[.int .i64 8, .int .i64 a, .int .i64 b, wv N, .int .i64 K, .string ⟨s.toArray⟩] from K_o.out.below hbn K_o.out.lt)
    have H_r := Lib.hid (show RowS base hi V1 rb gp cp gd cd xs xs P D from K_r.out.below hbn)
    have H_u := Lib.hid (show Below w.heap.size w V1 from keepb K_u.out hbn)
    have H_n := Lib.hid (show Blk V1 g7 26 #[.slice A1 n1 c1] from K_n.out.below hbn K_n.out.lt)
    have H_m := Lib.hid (show Blk V1 g8 26 #[.slice A2 n2 c2] from K_m.out.below hbn K_m.out.lt)
    have H_x := Lib.hid (show Blk V1 g9 31 #[.slice B1 m1 d1] from K_x.out.below hbn K_x.out.lt)
    have H_y := Lib.hid (show Blk V1 g10 31 #[.slice B2 m2 d2] from K_y.out.below hbn K_y.out.lt)
    have H_p := Lib.hid (show Ans X no V1 A3 n3 c3 er from K_p.out.below hbn)
    have B_s := Lib.hid (show Blk V1 w1.heap.size 26 #[.slice A3 n3 c3] from by rw [← hV1]; exact Blk.new w1 26 #[.slice A3 n3 c3])
    obtain ⟨g1, hg1⟩ : ∃ g, w1.heap.size = g := ⟨_, rfl⟩
    simp only [hV1, hg1] at B_s ⊢
    have H_s := B_s
    clear hV1 hg1 hbn K_o K_r K_u K_n K_m K_x K_y K_p B_s
    have fx := H_x.out.cell 0
    simp only [List.getElem?_toArray, List.getElem?_cons_zero, List.getElem?_cons_succ] at fx
    have fK := H_o.out.cell 4
    simp only [List.getElem?_toArray, List.getElem?_cons_zero, List.getElem?_cons_succ] at fK
    go_wp2_with fail
    refine (HREF.out _ H_u.out).mono ?_
    rintro e w2 ⟨A4, n4, c4, G, rfl, hno, hl, hb⟩
    clear fx fK
    have K_o := Lib.hid (show Blk w2 w.heap.size 37 #[.int .i64 8, .int .i64 a, .int .i64 b, wv N, .int .i64 K, .string ⟨s.toArray⟩] from H_o.out.below hb H_o.out.lt)
    have K_r := Lib.hid (show RowS base hi w2 rb gp cp gd cd xs xs P D from H_r.out.below hb)
    have K_u := Lib.hid (show Below w.heap.size w w2 from keepb H_u.out hb)
    have K_n := Lib.hid (show Blk w2 g7 26 #[.slice A1 n1 c1] from H_n.out.below hb H_n.out.lt)
    have K_m := Lib.hid (show Blk w2 g8 26 #[.slice A2 n2 c2] from H_m.out.below hb H_m.out.lt)
    have K_x := Lib.hid (show Blk w2 g9 31 #[.slice B1 m1 d1] from H_x.out.below hb H_x.out.lt)
    have K_y := Lib.hid (show Blk w2 g10 31 #[.slice B2 m2 d2] from H_y.out.below hb H_y.out.lt)
    have K_p := Lib.hid (show Ans X no w2 A3 n3 c3 er from H_p.out.below hb)
    have K_s := Lib.hid (show Blk w2 g1 26 #[.slice A3 n3 c3] from H_s.out.below hb H_s.out.lt)
    have K_d := Lib.hid (show no = 0 → RatL w2 A4 n4 c4 X from hl)
    clear hb H_o H_r H_u H_n H_m H_x H_y H_p H_s
    clear hl
    go_upto_region 30 with fail
    obtain ⟨V2, hV2⟩ : ∃ V, (w2.alloc (.cells #[.slice A4 n4 c4] 31)) = V := ⟨_, rfl⟩
    have hbn : Below w2.heap.size w2 V2 := by rw [← hV2]; go_grown
    have H_o := Lib.hid (show Blk V2 w.heap.size 37 #[.int .i64 8, .int .i64 a, .int .i64 b, wv N, .int .i64 K, .string ⟨s.toArray⟩] from K_o.out.below hbn K_o.out.lt)
    have H_r := Lib.hid (show RowS base hi V2 rb gp cp gd cd xs xs P D from K_r.out.below hbn)
    have H_u := Lib.hid (show Below w.heap.size w V2 from keepb K_u.out hbn)
    have H_n := Lib.hid (show Blk V2 g7 26 #[.slice A1 n1 c1] from K_n.out.below hbn K_n.out.lt)
    have H_m := Lib.hid (show Blk V2 g8 26 #[.slice A2 n2 c2] from K_m.out.below hbn K_m.out.lt)
    have H_x := Lib.hid (show Blk V2 g9 31 #[.slice B1 m1 d1] from K_x.out.below hbn K_x.out.lt)
    have H_y := Lib.hid (show Blk V2 g10 31 #[.slice B2 m2 d2] from K_y.out.below hbn K_y.out.lt)
    have H_p := Lib.hid (show Ans X no V2 A3 n3 c3 er from K_p.out.below hbn)
    have H_s := Lib.hid (show Blk V2 g1 26 #[.slice A3 n3 c3] from K_s.out.below hbn K_s.out.lt)
    have H_d := Lib.hid (show no = 0 → RatL V2 A4 n4 c4 X from (fun h => (K_d.out h).below hbn))
    have B_t := Lib.hid (show Blk V2 w2.heap.size 31 #[.slice A4 n4 c4] from by rw [← hV2]; exact Blk.new w2 31 #[.slice A4 n4 c4])
    obtain ⟨g2, hg2⟩ : ∃ g, w2.heap.size = g := ⟨_, rfl⟩
    simp only [hV2, hg2] at B_t ⊢
    have H_t := B_t
    clear hV2 hg2 hbn K_o K_r K_u K_n K_m K_x K_y K_p K_s K_d B_t
    have HLS := Lib.hid (fun W => (show Calls Tryd.prog 18 #[.bool G, .int .i64 11] W (fun e w' => e = .returned (.int .i64 no) ∧ Below W.heap.size W w') from by rw [hno]; exact less_any G 11 W))
    clear hno
    obtain ⟨S7_0, S7_0D⟩ : ∃ S : World → Prop, Go.RowKit.Hid (∀ w' : World, S w' ↔ ((Blk w' w.heap.size 37 #[.int .i64 8, .int .i64 a, .int .i64 b, wv N, .int .i64 K, .string ⟨s.toArray⟩]) ∧ (RowS base hi w' rb gp cp gd cd xs xs P D) ∧ (Below w.heap.size w w') ∧ (Blk w' g7 26 #[.slice A1 n1 c1]) ∧ (Blk w' g8 26 #[.slice A2 n2 c2]) ∧ (Blk w' g9 31 #[.slice B1 m1 d1]) ∧ (Blk w' g10 31 #[.slice B2 m2 d2]) ∧ (Ans X no w' A3 n3 c3 er) ∧ (Blk w' g1 26 #[.slice A3 n3 c3]) ∧ (no = 0 → RatL w' A4 n4 c4 X) ∧ (Blk w' g2 31 #[.slice A4 n4 c4]))) := ⟨_, Lib.hid (fun _ => Iff.rfl)⟩
    refine wp_region_way (S := S7_0) (by kernel_rfl) (by kernel_rfl) (fun W W' h hb => by obtain ⟨h_o, h_r, h_u, h_n, h_m, h_x, h_y, h_p, h_s, h_d, h_t⟩ := (S7_0D.out _).1 h; exact (S7_0D.out _).2 ⟨h_o.below hb h_o.lt, h_r.below hb, keepb h_u hb, h_n.below hb h_n.lt, h_m.below hb h_m.lt, h_x.below hb h_x.lt, h_y.below hb h_y.lt, h_p.below hb, h_s.below hb h_s.lt, (fun h => (h_d h).below hb), h_t.below hb h_t.lt⟩) ((S7_0D.out _).2 ⟨H_o.out.below (Below.refl V2.heap.size V2).drew H_o.out.lt, H_r.out.below (Below.refl V2.heap.size V2).drew, keepb H_u.out (Below.refl V2.heap.size V2).drew, H_n.out.below (Below.refl V2.heap.size V2).drew H_n.out.lt, H_m.out.below (Below.refl V2.heap.size V2).drew H_m.out.lt, H_x.out.below (Below.refl V2.heap.size V2).drew H_x.out.lt, H_y.out.below (Below.refl V2.heap.size V2).drew H_y.out.lt, H_p.out.below (Below.refl V2.heap.size V2).drew, H_s.out.below (Below.refl V2.heap.size V2).drew H_s.out.lt, (fun h => (H_d.out h).below (Below.refl V2.heap.size V2).drew), H_t.out.below (Below.refl V2.heap.size V2).drew H_t.out.lt⟩) ?_
    first
      | (refine Way.no 0 (by rfl) (by kernel_rfl) (by rfl) ?_; simp only [Act.put, List.setIfInBounds_toArray, List.set_cons_zero, List.set_cons_succ])
      | (refine' Way.yes 0 (by rfl) (by kernel_rfl) (by rfl) (fun wS hS => ?_) ?_
         rotate_left
         · obtain ⟨h_o, h_r, h_u, h_n, h_m, h_x, h_y, h_p, h_s, h_d, h_t⟩ := (S7_0D.out _).1 hS
           have cs := h_s.cell 0
           have ct := h_t.cell 0
           simp at cs ct
           go_simp
           first
             | exact ⟨rfl, Below.refl _ _⟩
         simp only [Act.put, List.setIfInBounds_toArray, List.set_cons_zero, List.set_cons_succ])
    first
      | (refine Way.no 1 (by rfl) (by kernel_rfl) (by rfl) ?_; simp only [Act.put, List.setIfInBounds_toArray, List.set_cons_zero, List.set_cons_succ])
      | (refine' Way.yes 1 (by rfl) (by kernel_rfl) (by rfl) (fun wS hS => ?_) ?_
         rotate_left
         · obtain ⟨h_o, h_r, h_u, h_n, h_m, h_x, h_y, h_p, h_s, h_d, h_t⟩ := (S7_0D.out _).1 hS
           have cs := h_s.cell 0
           have ct := h_t.cell 0
           simp at cs ct
           go_simp
           first
             | exact ⟨rfl, Below.refl _ _⟩
         simp only [Act.put, List.setIfInBounds_toArray, List.set_cons_zero, List.set_cons_succ])
    first
      | (refine Way.no 2 (by rfl) (by kernel_rfl) (by rfl) ?_; simp only [Act.put, List.setIfInBounds_toArray, List.set_cons_zero, List.set_cons_succ])
      | (refine' Way.yes 2 (by rfl) (by kernel_rfl) (by rfl) (fun wS hS => ?_) ?_
         rotate_left
         · obtain ⟨h_o, h_r, h_u, h_n, h_m, h_x, h_y, h_p, h_s, h_d, h_t⟩ := (S7_0D.out _).1 hS
           have cs := h_s.cell 0
           have ct := h_t.cell 0
           simp at cs ct
           go_simp
           first
             | exact ⟨rfl, Below.refl _ _⟩
         simp only [Act.put, List.setIfInBounds_toArray, List.set_cons_zero, List.set_cons_succ])
    first
      | (refine Way.no 3 (by rfl) (by kernel_rfl) (by rfl) ?_; simp only [Act.put, List.setIfInBounds_toArray, List.set_cons_zero, List.set_cons_succ])
      | (refine' Way.yes 3 (by rfl) (by kernel_rfl) (by rfl) (fun wS hS => ?_) ?_
         rotate_left
         · obtain ⟨h_o, h_r, h_u, h_n, h_m, h_x, h_y, h_p, h_s, h_d, h_t⟩ := (S7_0D.out _).1 hS
           have cs := h_s.cell 0
           have ct := h_t.cell 0
           simp at cs ct
           go_simp
           first
             | exact ⟨rfl, Below.refl _ _⟩
         simp only [Act.put, List.setIfInBounds_toArray, List.set_cons_zero, List.set_cons_succ])
    first
      | (refine Way.no 4 (by rfl) (by kernel_rfl) (by rfl) ?_; simp only [Act.put, List.setIfInBounds_toArray, List.set_cons_zero, List.set_cons_succ])
      | (refine' Way.yes 4 (by rfl) (by kernel_rfl) (by rfl) (fun wS hS => ?_) ?_
         rotate_left
         · obtain ⟨h_o, h_r, h_u, h_n, h_m, h_x, h_y, h_p, h_s, h_d, h_t⟩ := (S7_0D.out _).1 hS
           have cs := h_s.cell 0
           have ct := h_t.cell 0
           simp at cs ct
           go_simp
           first
             | exact ⟨rfl, Below.refl _ _⟩
         simp only [Act.put, List.setIfInBounds_toArray, List.set_cons_zero, List.set_cons_succ])
    refine' Way.yes (v := .int .i64 no) 5 (by rfl) (by kernel_rfl) (by rfl) (fun wS hS => ?_) ?_
    · obtain ⟨h_o, h_r, h_u, h_n, h_m, h_x, h_y, h_p, h_s, h_d, h_t⟩ := (S7_0D.out _).1 hS
      go_simp
      exact (HLS.out _).mono fun e w2 h => h
    simp only [Act.put, List.setIfInBounds_toArray, List.set_cons_zero, List.set_cons_succ]
    refine Way.move 6 (by rfl) (by kernel_rfl) (by rfl) (fun wA hS => ?_)
    obtain ⟨h_o, h_r, h_u, h_n, h_m, h_x, h_y, h_p, h_s, h_d, h_t⟩ := (S7_0D.out _).1 hS
    clear hS
    go_simp
    refine (HPUT.out X no A3 A4 n3 c3 n4 c4 er _ ⟨_, _, _, _, _, _, h_r⟩ h_p h_d).mono ?_
    rintro e wN ⟨rfl, hz, _, hbe⟩
    refine ⟨_, rfl, ?_⟩
    obtain ⟨S7_1, S7_1D⟩ : ∃ S : World → Prop, Go.RowKit.Hid (∀ w' : World, S w' ↔ ((∃ h2 ys, xs.length ≤ ys.length ∧ ys.length ≤ xs.length + 1 ∧ Row base h2 w' rb ys) ∧ (Below base w w' ∧ base ≤ w'.heap.size))) := ⟨_, Lib.hid (fun _ => Iff.rfl)⟩
    refine Moved.turn S7_1 (fun W W' h hb => by obtain ⟨h_z, h_e⟩ := (S7_1D.out _).1 h; exact (S7_1D.out _).2 ⟨(by obtain ⟨h2, ys, h3, h4, h5⟩ := h_z; exact ⟨h2, ys, h3, h4, h5.below hb⟩), ⟨h_e.1.trans (hb.mono h_e.2), Nat.le_trans h_e.2 hb.size⟩⟩) (by kernel_rfl) ((S7_1D.out _).2 ⟨hz, ⟨(h_u.mono HBL.out).trans hbe, by obtain ⟨_, _, _, _, h⟩ := hz; exact h.base_le⟩⟩) ?_
    clear h_o h_r h_u h_n h_m h_x h_y h_p h_s h_d h_t
    try simp only [Act.put, List.setIfInBounds_toArray, List.set_cons_zero, List.set_cons_succ]
    clear hz hbe
    first
      | (refine Way.no 7 (by rfl) (by kernel_rfl) (by rfl) ?_; simp only [Act.put, List.setIfInBounds_toArray, List.set_cons_zero, List.set_cons_succ])
      | (refine' Way.yes 7 (by rfl) (by kernel_rfl) (by rfl) (fun wS hS => ?_) ?_
         rotate_left
         · obtain ⟨h_z, h_e⟩ := (S7_1D.out _).1 hS
           go_simp
           first
             | exact ⟨rfl, Below.refl _ _⟩
         simp only [Act.put, List.setIfInBounds_toArray, List.set_cons_zero, List.set_cons_succ])
    refine Way.done (by kernel_rfl) (fun wE hS => ?_)
    obtain ⟨h_z, h_e⟩ := (S7_1D.out _).1 hS
    have H_z := Lib.hid h_z
    have H_e := Lib.hid h_e
    clear hS h_z h_e
    go_wp2_with fail
    go_ret
    obtain ⟨h2, ys, h3, h4, h5⟩ := H_z.out
    exact ⟨rfl, ⟨h2, ys, h3, by omega, h5⟩, H_e.out.1⟩
  · have hK := HWK.out
    have HOPN := Lib.hid (fun W (hb : Below w.heap.size w W) => nshr_nat _ x K W (HN1.out W hb) (by have := HX.out; rw [HMM.out] at this; omega) (wf_le hK))
    have HREF := Lib.hid (fun W (hb : Below w.heap.size w W) => rdown_any _ x M m4 K W (HR1.out W hb) HMM.out HM4.out HX.out)
    clear hK
    unfold ShrP at HOPN
    unfold DownP at HREF
    have HXQ : Hid (blen (x / 2 ^ K.toNat) ≤ 8192) := Lib.hid (Nat.le_trans (blen_mono (Nat.div_le_self _ _)) (by have := HX.out; rw [HMM.out] at this; exact this))
    obtain ⟨X, hX⟩ : ∃ X, x / 2 ^ K.toNat = X := ⟨_, rfl⟩
    rw [hX] at HOPN HREF HXQ
    obtain ⟨los, hlos⟩ : ∃ l, decide (x % 2 ^ K.toNat ≠ 0) = l := ⟨_, rfl⟩
    rw [hlos] at HOPN HREF
    clear hX hlos
    have tl : (los == los) = true := by simp
    have fk := H_o.out.cell 0
    simp only [List.getElem?_toArray, List.getElem?_cons_zero, List.getElem?_cons_succ] at fk
    have fn := H_n.out.cell 0
    simp only [List.getElem?_toArray, List.getElem?_cons_zero, List.getElem?_cons_succ] at fn
    have fK := H_o.out.cell 4
    simp only [List.getElem?_toArray, List.getElem?_cons_zero, List.getElem?_cons_succ] at fK
    go_wp2_with fail
    refine (HOPN.out _ H_u.out).mono ?_
    rintro e w1 ⟨A3, n3, c3, rfl, hl, hb⟩
    clear fk fn fK
    have K_o := Lib.hid (show Blk w1 w.heap.size 37 #[.int .i64 9, .int .i64 a, .int .i64 b, wv N, .int .i64 K, .string ⟨s.toArray⟩] from H_o.out.below hb H_o.out.lt)
    have K_r := Lib.hid (show RowS base hi w1 rb gp cp gd cd xs xs P D from H_r.out.below hb)
    have K_u := Lib.hid (show Below w.heap.size w w1 from keepb H_u.out hb)
    have K_n := Lib.hid (show Blk w1 g7 26 #[.slice A1 n1 c1] from H_n.out.below hb H_n.out.lt)
    have K_m := Lib.hid (show Blk w1 g8 26 #[.slice A2 n2 c2] from H_m.out.below hb H_m.out.lt)
    have K_x := Lib.hid (show Blk w1 g9 31 #[.slice B1 m1 d1] from H_x.out.below hb H_x.out.lt)
    have K_y := Lib.hid (show Blk w1 g10 31 #[.slice B2 m2 d2] from H_y.out.below hb H_y.out.lt)
    have K_p := Lib.hid (show NatL w1 A3 n3 c3 X from hl)
    clear hb H_o H_r H_u H_n H_m H_x H_y
    clear hl
    go_upto_region 32 with fail
    obtain ⟨V1, hV1⟩ : ∃ V, (w1.alloc (.cells #[.slice A3 n3 c3] 26)) = V := ⟨_, rfl⟩
    have hbn : Below w1.heap.size w1 V1 := by rw [← hV1]; go_grown
    have H_o := Lib.hid (show Blk V1 w.heap.size 37 #[.int .i64 9, .int .i64 a, .int .i64 b, wv N, .int .i64 K, .string ⟨s.toArray⟩] from K_o.out.below hbn K_o.out.lt)
    have H_r := Lib.hid (show RowS base hi V1 rb gp cp gd cd xs xs P D from K_r.out.below hbn)
    have H_u := Lib.hid (show Below w.heap.size w V1 from keepb K_u.out hbn)
    have H_n := Lib.hid (show Blk V1 g7 26 #[.slice A1 n1 c1] from K_n.out.below hbn K_n.out.lt)
    have H_m := Lib.hid (show Blk V1 g8 26 #[.slice A2 n2 c2] from K_m.out.below hbn K_m.out.lt)
    have H_x := Lib.hid (show Blk V1 g9 31 #[.slice B1 m1 d1] from K_x.out.below hbn K_x.out.lt)
    have H_y := Lib.hid (show Blk V1 g10 31 #[.slice B2 m2 d2] from K_y.out.below hbn K_y.out.lt)
    have H_p := Lib.hid (show NatL V1 A3 n3 c3 X from K_p.out.below hbn)
    have B_s := Lib.hid (show Blk V1 w1.heap.size 26 #[.slice A3 n3 c3] from by rw [← hV1]; exact Blk.new w1 26 #[.slice A3 n3 c3])
    obtain ⟨g1, hg1⟩ : ∃ g, w1.heap.size = g := ⟨_, rfl⟩
    simp only [hV1, hg1] at B_s ⊢
    have H_s := B_s
    clear hV1 hg1 hbn K_o K_r K_u K_n K_m K_x K_y K_p B_s
    have fx := H_x.out.cell 0
    simp only [List.getElem?_toArray, List.getElem?_cons_zero, List.getElem?_cons_succ] at fx
    have fK := H_o.out.cell 4
    simp only [List.getElem?_toArray, List.getElem?_cons_zero, List.getElem?_cons_succ] at fK
    go_wp2_with fail
    refine (HREF.out _ H_u.out).mono ?_
    rintro e w2 ⟨A4, n4, c4, rfl, hl, hb⟩
    clear fx fK
    have K_o := Lib.hid (show Blk w2 w.heap.size 37 #[.int .i64 9, .int .i64 a, .int .i64 b, wv N, .int .i64 K, .string ⟨s.toArray⟩] from H_o.out.below hb H_o.out.lt)
    have K_r := Lib.hid (show RowS base hi w2 rb gp cp gd cd xs xs P D from H_r.out.below hb)
    have K_u := Lib.hid (show Below w.heap.size w w2 from keepb H_u.out hb)
    have K_n := Lib.hid (show Blk w2 g7 26 #[.slice A1 n1 c1] from H_n.out.below hb H_n.out.lt)
    have K_m := Lib.hid (show Blk w2 g8 26 #[.slice A2 n2 c2] from H_m.out.below hb H_m.out.lt)
    have K_x := Lib.hid (show Blk w2 g9 31 #[.slice B1 m1 d1] from H_x.out.below hb H_x.out.lt)
    have K_y := Lib.hid (show Blk w2 g10 31 #[.slice B2 m2 d2] from H_y.out.below hb H_y.out.lt)
    have K_p := Lib.hid (show NatL w2 A3 n3 c3 X from H_p.out.below hb)
    have K_s := Lib.hid (show Blk w2 g1 26 #[.slice A3 n3 c3] from H_s.out.below hb H_s.out.lt)
    have K_d := Lib.hid (show RatL w2 A4 n4 c4 X from hl)
    clear hb H_o H_r H_u H_n H_m H_x H_y H_p H_s
    clear hl
    go_upto_region 33 with fail
    obtain ⟨V2, hV2⟩ : ∃ V, (w2.alloc (.cells #[.slice A4 n4 c4] 31)) = V := ⟨_, rfl⟩
    have hbn : Below w2.heap.size w2 V2 := by rw [← hV2]; go_grown
    have H_o := Lib.hid (show Blk V2 w.heap.size 37 #[.int .i64 9, .int .i64 a, .int .i64 b, wv N, .int .i64 K, .string ⟨s.toArray⟩] from K_o.out.below hbn K_o.out.lt)
    have H_r := Lib.hid (show RowS base hi V2 rb gp cp gd cd xs xs P D from K_r.out.below hbn)
    have H_u := Lib.hid (show Below w.heap.size w V2 from keepb K_u.out hbn)
    have H_n := Lib.hid (show Blk V2 g7 26 #[.slice A1 n1 c1] from K_n.out.below hbn K_n.out.lt)
    have H_m := Lib.hid (show Blk V2 g8 26 #[.slice A2 n2 c2] from K_m.out.below hbn K_m.out.lt)
    have H_x := Lib.hid (show Blk V2 g9 31 #[.slice B1 m1 d1] from K_x.out.below hbn K_x.out.lt)
    have H_y := Lib.hid (show Blk V2 g10 31 #[.slice B2 m2 d2] from K_y.out.below hbn K_y.out.lt)
    have H_p := Lib.hid (show NatL V2 A3 n3 c3 X from K_p.out.below hbn)
    have H_s := Lib.hid (show Blk V2 g1 26 #[.slice A3 n3 c3] from K_s.out.below hbn K_s.out.lt)
    have H_d := Lib.hid (show RatL V2 A4 n4 c4 X from K_d.out.below hbn)
    have B_t := Lib.hid (show Blk V2 w2.heap.size 31 #[.slice A4 n4 c4] from by rw [← hV2]; exact Blk.new w2 31 #[.slice A4 n4 c4])
    obtain ⟨g2, hg2⟩ : ∃ g, w2.heap.size = g := ⟨_, rfl⟩
    simp only [hV2, hg2] at B_t ⊢
    have H_t := B_t
    clear hV2 hg2 hbn K_o K_r K_u K_n K_m K_x K_y K_p K_s K_d B_t
    have fs := H_s.out.cell 0
    simp only [List.getElem?_toArray, List.getElem?_cons_zero, List.getElem?_cons_succ] at fs
    have ft := H_t.out.cell 0
    simp only [List.getElem?_toArray, List.getElem?_cons_zero, List.getElem?_cons_succ] at ft
    go_wp2_with fail
    refine (HPUT.out X 0 A3 A4 n3 c3 n4 c4 .nilIface _ ⟨_, _, _, _, _, _, H_r.out⟩ (.inl ⟨rfl, rfl, H_p.out, HXQ.out⟩) (fun _ => H_d.out)).mono ?_
    rintro e wN ⟨rfl, hz, _, hbe⟩
    have H_z := Lib.hid hz
    have H_b := Lib.hid hbe
    clear fs ft
    clear hz hbe
    go_wp2_with fail
    go_ret
    obtain ⟨h2, ys, h3, h4, h5⟩ := H_z.out
    exact ⟨rfl, ⟨h2, ys, h3, by omega, h5⟩, (H_u.out.mono HBL.out).trans H_b.out⟩
end Go.Proofs.YtgihkmofpncobaaDoor
