/- The law's asked: the steps that ask. -/
import Derived.Test.YtgihkmofpncobaaDoorNRY
namespace Go.Proofs.YtgihkmofpncobaaDoor
open Go.RowKit
set_option linter.unusedSimpArgs false
set_option linter.unusedVariables false

attribute [local go_sem] SGives_value SGives_skip SGives_enter CGives_value CGives_skip CGives_enter MGives_value MGives_skip MGives_enter
set_option maxRecDepth 4000000 in
set_option maxHeartbeats 40000000 in
theorem asked_core (base hi rb : Nat) (xs : List Nat) (kind a b K : Int) (N M Y Z m4 : Nat) (s : List UInt8) (w : World) (hkind : kind = 10 ∨ kind = 11 ∨ kind = 12 ∨ kind = 13 ∨ (kind ≠ 10 ∧ kind ≠ 11 ∧ kind ≠ 12 ∧ kind ≠ 13)) (hrow : Row base hi w rb xs) (hpos : 0 < xs.length) (wa : (Lit.int .i64 a).wf = true) (wb : (Lit.int .i64 b).wf = true) (wK : (Lit.int .i64 K).wf = true) (hN : N < W64) (hM : M = 8192) (hm4 : m4 = 4096) (hY : Y = 10000) (hZ : Z = 1000000) (hlen : (xs.length + 2) * 24 ≤ 140737488355328) :
    Calls Tryd.prog 7 #[.pointer (some ⟨rb, 0, none⟩), .agg #[.int .i64 kind, .int .i64 a, .int .i64 b, wv N, .int .i64 K, .string ⟨s.toArray⟩]] w (StepP base rb xs w) := by
  have HBL := Lib.hid hrow.base_le
  have HPUT := Lib.hid (fun x no A B n c m d er W (hr : Row base hi W rb xs) ha hk => put_any base hi rb xs x no A B n c m d er W hr ha hk (by omega))
  have HPUT2 := Lib.hid (fun h2 ys x no A B n c m d er W (hys : ys.length ≤ xs.length + 1) (hr : Row base h2 W rb ys) ha hk => put_any base h2 rb ys x no A B n c m d er W hr ha hk (by omega))
  obtain ⟨gp, cp, gd, cd, P, D, hR⟩ := hrow
  have HHI := Lib.hid hR.le
  have hn15 : xs.length ≤ 1000000000000000 := by omega
  have hPA := fun W => place_any xs.length a W hpos hn15 wa
  have hPB := fun W => place_any xs.length b W hpos hn15 wb
  have hp1 := placeI_lt hpos a
  have hp2 := placeI_lt hpos b
  obtain ⟨p1, hpp1⟩ : ∃ p, placeI xs.length a = p := ⟨_, rfl⟩
  obtain ⟨p2, hpp2⟩ : ∃ p, placeI xs.length b = p := ⟨_, rfl⟩
  rw [hpp1] at hPA hp1
  rw [hpp2] at hPB hp2
  have HPA := Lib.hid hPA
  have HPB := Lib.hid hPB
  have hgp : gp < w.heap.size := Nat.lt_of_lt_of_le hR.hgp hR.le
  have hgd : gd < w.heap.size := Nat.lt_of_lt_of_le hR.hgd hR.le
  have hsx := hR.small _ (List.getElem_mem hp1)
  have hsy := hR.small _ (List.getElem_mem hp2)
  obtain ⟨A1, n1, c1, hc1, hn1⟩ := hR.atP p1 hp1
  obtain ⟨A2, n2, c2, hc2, hn2⟩ := hR.atP p2 hp2
  obtain ⟨B1, m1, d1, hd1, hr1⟩ := hR.atD p1 hp1
  obtain ⟨B2, m2, d2, hd2, hr2⟩ := hR.atD p2 hp2
  obtain ⟨x, hx⟩ : ∃ x, xs[p1] = x := ⟨_, rfl⟩
  obtain ⟨y, hy⟩ : ∃ y, xs[p2] = y := ⟨_, rfl⟩
  rw [hx] at hsx hn1 hr1
  rw [hy] at hsy hn2 hr2
  have HC1 : Hid (∀ W, Below w.heap.size w W → W.cell? ⟨gp, p1, none⟩ = some (.slice A1 n1 c1)) := Lib.hid (fun W hb => keepc hb hgp hc1)
  have HC2 : Hid (∀ W, Below w.heap.size w W → W.cell? ⟨gp, p2, none⟩ = some (.slice A2 n2 c2)) := Lib.hid (fun W hb => keepc hb hgp hc2)
  have HD1 : Hid (∀ W, Below w.heap.size w W → W.cell? ⟨gd, p1, none⟩ = some (.slice B1 m1 d1)) := Lib.hid (fun W hb => keepc hb hgd hd1)
  have HD2 : Hid (∀ W, Below w.heap.size w W → W.cell? ⟨gd, p2, none⟩ = some (.slice B2 m2 d2)) := Lib.hid (fun W hb => keepc hb hgd hd2)
  have HN1 : Hid (∀ W, Below w.heap.size w W → NatW W (.agg #[.slice A1 n1 c1]) x) := Lib.hid (fun W hb => (hn1.below hb).w)
  have HN2 : Hid (∀ W, Below w.heap.size w W → NatW W (.agg #[.slice A2 n2 c2]) y) := Lib.hid (fun W hb => (hn2.below hb).w)
  have HR1 : Hid (∀ W, Below w.heap.size w W → RatW W (.agg #[.slice B1 m1 d1]) x) := Lib.hid (fun W hb => (hr1.below hb).w)
  have HR2 : Hid (∀ W, Below w.heap.size w W → RatW W (.agg #[.slice B2 m2 d2]) y) := Lib.hid (fun W hb => (hr2.below hb).w)
  have HZ2 := Lib.hid hr2.zero
  have HX : Hid (blen x ≤ M) := Lib.hid (by rw [hM]; exact hsx)
  have HYY : Hid (blen y ≤ M) := Lib.hid (by rw [hM]; exact hsy)
  have q1 : (p1 : Int) < (xs.length : Int) := by omega
  have q2 : (p2 : Int) < (xs.length : Int) := by omega
  have HNN := Lib.hid hN
  have HMM := Lib.hid hM
  have HM4 := Lib.hid hm4
  have HY := Lib.hid hY
  have HZ := Lib.hid hZ
  have HWK := Lib.hid wK
  obtain ⟨W0, hW0⟩ : ∃ W0, w.alloc (.cells #[.int .i64 kind, .int .i64 a, .int .i64 b, wv N, .int .i64 K, .string ⟨s.toArray⟩] 37) = W0 := ⟨_, rfl⟩
  have hb0 : Below w.heap.size w W0 := by rw [← hW0]; exact below_new _ _
  have H_o := Lib.hid (show Blk W0 w.heap.size 37 #[.int .i64 kind, .int .i64 a, .int .i64 b, wv N, .int .i64 K, .string ⟨s.toArray⟩] by rw [← hW0]; exact Blk.new _ _ _)
  have H_r := Lib.hid (hR.below hb0)
  have H_u := Lib.hid hb0
  clear hR hpos hn15 wa wb wK hPA hPB hp1 hp2 hpp1 hpp2 hgp hgd hsx hsy hc1 hc2 hd1 hd2 hn1 hn2 hr1 hr2 hx hy hN hM hm4 hY hZ hb0 hlen
  go_enter Tryd.func7, Tryd.ntmps7
  go_upto_region 1 with fail
  clear hW0
  obtain ⟨S0_0, S0_0D⟩ : ∃ S : World → Prop, Go.RowKit.Hid (∀ w' : World, S w' ↔ ((Blk w' w.heap.size 37 #[.int .i64 kind, .int .i64 a, .int .i64 b, wv N, .int .i64 K, .string ⟨s.toArray⟩]) ∧ (RowS base hi w' rb gp cp gd cd xs xs P D) ∧ (Below w.heap.size w w'))) := ⟨_, Lib.hid (fun _ => Iff.rfl)⟩
  refine wp_region_way (S := S0_0) (by kernel_rfl) (by kernel_rfl) (fun W W' h hb => by obtain ⟨h_o, h_r, h_u⟩ := (S0_0D.out _).1 h; exact (S0_0D.out _).2 ⟨h_o.below hb h_o.lt, h_r.below hb, keepb h_u hb⟩) ((S0_0D.out _).2 ⟨H_o.out.below (Below.refl W0.heap.size W0).drew H_o.out.lt, H_r.out.below (Below.refl W0.heap.size W0).drew, keepb H_u.out (Below.refl W0.heap.size W0).drew⟩) ?_
  first
    | (refine Way.no 0 (by rfl) (by kernel_rfl) (by rfl) ?_; simp only [Act.put, List.setIfInBounds_toArray, List.set_cons_zero, List.set_cons_succ])
    | (refine' Way.yes 0 (by rfl) (by kernel_rfl) (by rfl) (fun wS hS => ?_) ?_
       rotate_left
       · obtain ⟨h_o, h_r, h_u⟩ := (S0_0D.out _).1 hS
         have c0 := h_r.c0
         have c1 := h_o.cell 1
         have c2 := h_o.cell 2
         simp only [List.getElem?_toArray, List.getElem?_cons_zero, List.getElem?_cons_succ] at c1 c2
         go_simp
         first
           | exact ⟨rfl, Below.refl _ _⟩
       simp only [Act.put, List.setIfInBounds_toArray, List.set_cons_zero, List.set_cons_succ])
  first
    | (refine Way.no 1 (by rfl) (by kernel_rfl) (by rfl) ?_; simp only [Act.put, List.setIfInBounds_toArray, List.set_cons_zero, List.set_cons_succ])
    | (refine' Way.yes 1 (by rfl) (by kernel_rfl) (by rfl) (fun wS hS => ?_) ?_
       rotate_left
       · obtain ⟨h_o, h_r, h_u⟩ := (S0_0D.out _).1 hS
         have c0 := h_r.c0
         have c1 := h_o.cell 1
         have c2 := h_o.cell 2
         simp only [List.getElem?_toArray, List.getElem?_cons_zero, List.getElem?_cons_succ] at c1 c2
         go_simp
         first
           | exact ⟨rfl, Below.refl _ _⟩
       simp only [Act.put, List.setIfInBounds_toArray, List.set_cons_zero, List.set_cons_succ])
  first
    | (refine Way.no 2 (by rfl) (by kernel_rfl) (by rfl) ?_; simp only [Act.put, List.setIfInBounds_toArray, List.set_cons_zero, List.set_cons_succ])
    | (refine' Way.yes 2 (by rfl) (by kernel_rfl) (by rfl) (fun wS hS => ?_) ?_
       rotate_left
       · obtain ⟨h_o, h_r, h_u⟩ := (S0_0D.out _).1 hS
         have c0 := h_r.c0
         have c1 := h_o.cell 1
         have c2 := h_o.cell 2
         simp only [List.getElem?_toArray, List.getElem?_cons_zero, List.getElem?_cons_succ] at c1 c2
         go_simp
         first
           | exact ⟨rfl, Below.refl _ _⟩
       simp only [Act.put, List.setIfInBounds_toArray, List.set_cons_zero, List.set_cons_succ])
  first
    | (refine Way.no 3 (by rfl) (by kernel_rfl) (by rfl) ?_; simp only [Act.put, List.setIfInBounds_toArray, List.set_cons_zero, List.set_cons_succ])
    | (refine' Way.yes 3 (by rfl) (by kernel_rfl) (by rfl) (fun wS hS => ?_) ?_
       rotate_left
       · obtain ⟨h_o, h_r, h_u⟩ := (S0_0D.out _).1 hS
         have c0 := h_r.c0
         have c1 := h_o.cell 1
         have c2 := h_o.cell 2
         simp only [List.getElem?_toArray, List.getElem?_cons_zero, List.getElem?_cons_succ] at c1 c2
         go_simp
         first
           | exact ⟨rfl, Below.refl _ _⟩
       simp only [Act.put, List.setIfInBounds_toArray, List.set_cons_zero, List.set_cons_succ])
  first
    | (refine Way.no 4 (by rfl) (by kernel_rfl) (by rfl) ?_; simp only [Act.put, List.setIfInBounds_toArray, List.set_cons_zero, List.set_cons_succ])
    | (refine' Way.yes 4 (by rfl) (by kernel_rfl) (by rfl) (fun wS hS => ?_) ?_
       rotate_left
       · obtain ⟨h_o, h_r, h_u⟩ := (S0_0D.out _).1 hS
         have c0 := h_r.c0
         have c1 := h_o.cell 1
         have c2 := h_o.cell 2
         simp only [List.getElem?_toArray, List.getElem?_cons_zero, List.getElem?_cons_succ] at c1 c2
         go_simp
         first
           | exact ⟨rfl, Below.refl _ _⟩
       simp only [Act.put, List.setIfInBounds_toArray, List.set_cons_zero, List.set_cons_succ])
  first
    | (refine Way.no 5 (by rfl) (by kernel_rfl) (by rfl) ?_; simp only [Act.put, List.setIfInBounds_toArray, List.set_cons_zero, List.set_cons_succ])
    | (refine' Way.yes 5 (by rfl) (by kernel_rfl) (by rfl) (fun wS hS => ?_) ?_
       rotate_left
       · obtain ⟨h_o, h_r, h_u⟩ := (S0_0D.out _).1 hS
         have c0 := h_r.c0
         have c1 := h_o.cell 1
         have c2 := h_o.cell 2
         simp only [List.getElem?_toArray, List.getElem?_cons_zero, List.getElem?_cons_succ] at c1 c2
         go_simp
         first
           | exact ⟨rfl, Below.refl _ _⟩
       simp only [Act.put, List.setIfInBounds_toArray, List.set_cons_zero, List.set_cons_succ])
  first
    | (refine Way.no 6 (by rfl) (by kernel_rfl) (by rfl) ?_; simp only [Act.put, List.setIfInBounds_toArray, List.set_cons_zero, List.set_cons_succ])
    | (refine' Way.yes 6 (by rfl) (by kernel_rfl) (by rfl) (fun wS hS => ?_) ?_
       rotate_left
       · obtain ⟨h_o, h_r, h_u⟩ := (S0_0D.out _).1 hS
         have c0 := h_r.c0
         have c1 := h_o.cell 1
         have c2 := h_o.cell 2
         simp only [List.getElem?_toArray, List.getElem?_cons_zero, List.getElem?_cons_succ] at c1 c2
         go_simp
         first
           | exact ⟨rfl, Below.refl _ _⟩
       simp only [Act.put, List.setIfInBounds_toArray, List.set_cons_zero, List.set_cons_succ])
  refine' Way.yes (v := .int .i64 (p1 : Nat)) 7 (by rfl) (by kernel_rfl) (by rfl) (fun wS hS => ?_) ?_
  · obtain ⟨h_o, h_r, h_u⟩ := (S0_0D.out _).1 hS
    go_simp
    exact (HPA.out _).mono fun e w2 h => h
  simp only [Act.put, List.setIfInBounds_toArray, List.set_cons_zero, List.set_cons_succ]
  first
    | (refine Way.no 8 (by rfl) (by kernel_rfl) (by rfl) ?_; simp only [Act.put, List.setIfInBounds_toArray, List.set_cons_zero, List.set_cons_succ])
    | (refine' Way.yes 8 (by rfl) (by kernel_rfl) (by rfl) (fun wS hS => ?_) ?_
       rotate_left
       · obtain ⟨h_o, h_r, h_u⟩ := (S0_0D.out _).1 hS
         have c0 := h_r.c0
         have c1 := h_o.cell 1
         have c2 := h_o.cell 2
         simp only [List.getElem?_toArray, List.getElem?_cons_zero, List.getElem?_cons_succ] at c1 c2
         go_simp
         first
           | exact ⟨rfl, Below.refl _ _⟩
       simp only [Act.put, List.setIfInBounds_toArray, List.set_cons_zero, List.set_cons_succ])
  first
    | (refine Way.no 9 (by rfl) (by kernel_rfl) (by rfl) ?_; simp only [Act.put, List.setIfInBounds_toArray, List.set_cons_zero, List.set_cons_succ])
    | (refine' Way.yes 9 (by rfl) (by kernel_rfl) (by rfl) (fun wS hS => ?_) ?_
       rotate_left
       · obtain ⟨h_o, h_r, h_u⟩ := (S0_0D.out _).1 hS
         have c0 := h_r.c0
         have c1 := h_o.cell 1
         have c2 := h_o.cell 2
         simp only [List.getElem?_toArray, List.getElem?_cons_zero, List.getElem?_cons_succ] at c1 c2
         go_simp
         first
           | exact ⟨rfl, Below.refl _ _⟩
       simp only [Act.put, List.setIfInBounds_toArray, List.set_cons_zero, List.set_cons_succ])
  first
    | (refine Way.no 10 (by rfl) (by kernel_rfl) (by rfl) ?_; simp only [Act.put, List.setIfInBounds_toArray, List.set_cons_zero, List.set_cons_succ])
    | (refine' Way.yes 10 (by rfl) (by kernel_rfl) (by rfl) (fun wS hS => ?_) ?_
       rotate_left
       · obtain ⟨h_o, h_r, h_u⟩ := (S0_0D.out _).1 hS
         have c0 := h_r.c0
         have c1 := h_o.cell 1
         have c2 := h_o.cell 2
         simp only [List.getElem?_toArray, List.getElem?_cons_zero, List.getElem?_cons_succ] at c1 c2
         go_simp
         first
           | exact ⟨rfl, Below.refl _ _⟩
       simp only [Act.put, List.setIfInBounds_toArray, List.set_cons_zero, List.set_cons_succ])
  first
    | (refine Way.no 11 (by rfl) (by kernel_rfl) (by rfl) ?_; simp only [Act.put, List.setIfInBounds_toArray, List.set_cons_zero, List.set_cons_succ])
    | (refine' Way.yes 11 (by rfl) (by kernel_rfl) (by rfl) (fun wS hS => ?_) ?_
       rotate_left
       · obtain ⟨h_o, h_r, h_u⟩ := (S0_0D.out _).1 hS
         have c0 := h_r.c0
         have c1 := h_o.cell 1
         have c2 := h_o.cell 2
         simp only [List.getElem?_toArray, List.getElem?_cons_zero, List.getElem?_cons_succ] at c1 c2
         go_simp
         first
           | exact ⟨rfl, Below.refl _ _⟩
       simp only [Act.put, List.setIfInBounds_toArray, List.set_cons_zero, List.set_cons_succ])
  first
    | (refine Way.no 12 (by rfl) (by kernel_rfl) (by rfl) ?_; simp only [Act.put, List.setIfInBounds_toArray, List.set_cons_zero, List.set_cons_succ])
    | (refine' Way.yes 12 (by rfl) (by kernel_rfl) (by rfl) (fun wS hS => ?_) ?_
       rotate_left
       · obtain ⟨h_o, h_r, h_u⟩ := (S0_0D.out _).1 hS
         have c0 := h_r.c0
         have c1 := h_o.cell 1
         have c2 := h_o.cell 2
         simp only [List.getElem?_toArray, List.getElem?_cons_zero, List.getElem?_cons_succ] at c1 c2
         go_simp
         first
           | exact ⟨rfl, Below.refl _ _⟩
       simp only [Act.put, List.setIfInBounds_toArray, List.set_cons_zero, List.set_cons_succ])
  first
    | (refine Way.no 13 (by rfl) (by kernel_rfl) (by rfl) ?_; simp only [Act.put, List.setIfInBounds_toArray, List.set_cons_zero, List.set_cons_succ])
    | (refine' Way.yes 13 (by rfl) (by kernel_rfl) (by rfl) (fun wS hS => ?_) ?_
       rotate_left
       · obtain ⟨h_o, h_r, h_u⟩ := (S0_0D.out _).1 hS
         have c0 := h_r.c0
         have c1 := h_o.cell 1
         have c2 := h_o.cell 2
         simp only [List.getElem?_toArray, List.getElem?_cons_zero, List.getElem?_cons_succ] at c1 c2
         go_simp
         first
           | exact ⟨rfl, Below.refl _ _⟩
       simp only [Act.put, List.setIfInBounds_toArray, List.set_cons_zero, List.set_cons_succ])
  first
    | (refine Way.no 14 (by rfl) (by kernel_rfl) (by rfl) ?_; simp only [Act.put, List.setIfInBounds_toArray, List.set_cons_zero, List.set_cons_succ])
    | (refine' Way.yes 14 (by rfl) (by kernel_rfl) (by rfl) (fun wS hS => ?_) ?_
       rotate_left
       · obtain ⟨h_o, h_r, h_u⟩ := (S0_0D.out _).1 hS
         have c0 := h_r.c0
         have c1 := h_o.cell 1
         have c2 := h_o.cell 2
         simp only [List.getElem?_toArray, List.getElem?_cons_zero, List.getElem?_cons_succ] at c1 c2
         go_simp
         first
           | exact ⟨rfl, Below.refl _ _⟩
       simp only [Act.put, List.setIfInBounds_toArray, List.set_cons_zero, List.set_cons_succ])
  refine' Way.yes (v := .int .i64 (p2 : Nat)) 15 (by rfl) (by kernel_rfl) (by rfl) (fun wS hS => ?_) ?_
  · obtain ⟨h_o, h_r, h_u⟩ := (S0_0D.out _).1 hS
    go_simp
    exact (HPB.out _).mono fun e w2 h => h
  simp only [Act.put, List.setIfInBounds_toArray, List.set_cons_zero, List.set_cons_succ]
  first
    | (refine Way.no 16 (by rfl) (by kernel_rfl) (by rfl) ?_; simp only [Act.put, List.setIfInBounds_toArray, List.set_cons_zero, List.set_cons_succ])
    | (refine' Way.yes 16 (by rfl) (by kernel_rfl) (by rfl) (fun wS hS => ?_) ?_
       rotate_left
       · obtain ⟨h_o, h_r, h_u⟩ := (S0_0D.out _).1 hS
         go_simp
         first
           | exact ⟨rfl, Below.refl _ _⟩
       simp only [Act.put, List.setIfInBounds_toArray, List.set_cons_zero, List.set_cons_succ])
  first
    | (refine Way.no 17 (by rfl) (by kernel_rfl) (by rfl) ?_; simp only [Act.put, List.setIfInBounds_toArray, List.set_cons_zero, List.set_cons_succ])
    | (refine' Way.yes 17 (by rfl) (by kernel_rfl) (by rfl) (fun wS hS => ?_) ?_
       rotate_left
       · obtain ⟨h_o, h_r, h_u⟩ := (S0_0D.out _).1 hS
         go_simp
         first
           | exact ⟨rfl, Below.refl _ _⟩
       simp only [Act.put, List.setIfInBounds_toArray, List.set_cons_zero, List.set_cons_succ])
  refine Way.done (by kernel_rfl) (fun v1 hS => ?_)
  obtain ⟨h_o, h_r, h_u⟩ := (S0_0D.out _).1 hS
  have H_o := Lib.hid h_o
  have H_r := Lib.hid h_r
  have H_u := Lib.hid h_u
  clear hS h_o h_r h_u
  go_upto_region 2 with fail
  obtain ⟨S1_0, S1_0D⟩ : ∃ S : World → Prop, Go.RowKit.Hid (∀ w' : World, S w' ↔ ((Blk w' w.heap.size 37 #[.int .i64 kind, .int .i64 a, .int .i64 b, wv N, .int .i64 K, .string ⟨s.toArray⟩]) ∧ (RowS base hi w' rb gp cp gd cd xs xs P D) ∧ (Below w.heap.size w w'))) := ⟨_, Lib.hid (fun _ => Iff.rfl)⟩
  refine wp_region_way (S := S1_0) (by kernel_rfl) (by kernel_rfl) (fun W W' h hb => by obtain ⟨h_o, h_r, h_u⟩ := (S1_0D.out _).1 h; exact (S1_0D.out _).2 ⟨h_o.below hb h_o.lt, h_r.below hb, keepb h_u hb⟩) ((S1_0D.out _).2 ⟨H_o.out.below (Below.refl v1.heap.size v1).drew H_o.out.lt, H_r.out.below (Below.refl v1.heap.size v1).drew, keepb H_u.out (Below.refl v1.heap.size v1).drew⟩) ?_
  first
    | (refine Way.no 0 (by rfl) (by kernel_rfl) (by rfl) ?_; simp only [Act.put, List.setIfInBounds_toArray, List.set_cons_zero, List.set_cons_succ])
    | (refine' Way.yes 0 (by rfl) (by kernel_rfl) (by rfl) (fun wS hS => ?_) ?_
       rotate_left
       · obtain ⟨h_o, h_r, h_u⟩ := (S1_0D.out _).1 hS
         have c0 := h_r.c0
         have cd0 := h_r.c1
         have e1 := HC1.out _ h_u
         have e2 := HC2.out _ h_u
         have e3 := HD1.out _ h_u
         have e4 := HD2.out _ h_u
         go_simp
         first
           | exact ⟨rfl, Below.refl _ _⟩
       simp only [Act.put, List.setIfInBounds_toArray, List.set_cons_zero, List.set_cons_succ])
  first
    | (refine Way.no 1 (by rfl) (by kernel_rfl) (by rfl) ?_; simp only [Act.put, List.setIfInBounds_toArray, List.set_cons_zero, List.set_cons_succ])
    | (refine' Way.yes 1 (by rfl) (by kernel_rfl) (by rfl) (fun wS hS => ?_) ?_
       rotate_left
       · obtain ⟨h_o, h_r, h_u⟩ := (S1_0D.out _).1 hS
         have c0 := h_r.c0
         have cd0 := h_r.c1
         have e1 := HC1.out _ h_u
         have e2 := HC2.out _ h_u
         have e3 := HD1.out _ h_u
         have e4 := HD2.out _ h_u
         go_simp
         first
           | exact ⟨rfl, Below.refl _ _⟩
       simp only [Act.put, List.setIfInBounds_toArray, List.set_cons_zero, List.set_cons_succ])
  first
    | (refine Way.no 2 (by rfl) (by kernel_rfl) (by rfl) ?_; simp only [Act.put, List.setIfInBounds_toArray, List.set_cons_zero, List.set_cons_succ])
    | (refine' Way.yes 2 (by rfl) (by kernel_rfl) (by rfl) (fun wS hS => ?_) ?_
       rotate_left
       · obtain ⟨h_o, h_r, h_u⟩ := (S1_0D.out _).1 hS
         have c0 := h_r.c0
         have cd0 := h_r.c1
         have e1 := HC1.out _ h_u
         have e2 := HC2.out _ h_u
         have e3 := HD1.out _ h_u
         have e4 := HD2.out _ h_u
         go_simp
         first
           | exact ⟨rfl, Below.refl _ _⟩
       simp only [Act.put, List.setIfInBounds_toArray, List.set_cons_zero, List.set_cons_succ])
  first
    | (refine Way.no 3 (by rfl) (by kernel_rfl) (by rfl) ?_; simp only [Act.put, List.setIfInBounds_toArray, List.set_cons_zero, List.set_cons_succ])
    | (refine' Way.yes 3 (by rfl) (by kernel_rfl) (by rfl) (fun wS hS => ?_) ?_
       rotate_left
       · obtain ⟨h_o, h_r, h_u⟩ := (S1_0D.out _).1 hS
         have c0 := h_r.c0
         have cd0 := h_r.c1
         have e1 := HC1.out _ h_u
         have e2 := HC2.out _ h_u
         have e3 := HD1.out _ h_u
         have e4 := HD2.out _ h_u
         go_simp
         first
           | exact ⟨rfl, Below.refl _ _⟩
       simp only [Act.put, List.setIfInBounds_toArray, List.set_cons_zero, List.set_cons_succ])
  first
    | (refine Way.no 4 (by rfl) (by kernel_rfl) (by rfl) ?_; simp only [Act.put, List.setIfInBounds_toArray, List.set_cons_zero, List.set_cons_succ])
    | (refine' Way.yes 4 (by rfl) (by kernel_rfl) (by rfl) (fun wS hS => ?_) ?_
       rotate_left
       · obtain ⟨h_o, h_r, h_u⟩ := (S1_0D.out _).1 hS
         have c0 := h_r.c0
         have cd0 := h_r.c1
         have e1 := HC1.out _ h_u
         have e2 := HC2.out _ h_u
         have e3 := HD1.out _ h_u
         have e4 := HD2.out _ h_u
         go_simp
         first
           | exact ⟨rfl, Below.refl _ _⟩
       simp only [Act.put, List.setIfInBounds_toArray, List.set_cons_zero, List.set_cons_succ])
  first
    | (refine Way.no 5 (by rfl) (by kernel_rfl) (by rfl) ?_; simp only [Act.put, List.setIfInBounds_toArray, List.set_cons_zero, List.set_cons_succ])
    | (refine' Way.yes 5 (by rfl) (by kernel_rfl) (by rfl) (fun wS hS => ?_) ?_
       rotate_left
       · obtain ⟨h_o, h_r, h_u⟩ := (S1_0D.out _).1 hS
         have c0 := h_r.c0
         have cd0 := h_r.c1
         have e1 := HC1.out _ h_u
         have e2 := HC2.out _ h_u
         have e3 := HD1.out _ h_u
         have e4 := HD2.out _ h_u
         go_simp
         first
           | exact ⟨rfl, Below.refl _ _⟩
       simp only [Act.put, List.setIfInBounds_toArray, List.set_cons_zero, List.set_cons_succ])
  first
    | (refine Way.no 6 (by rfl) (by kernel_rfl) (by rfl) ?_; simp only [Act.put, List.setIfInBounds_toArray, List.set_cons_zero, List.set_cons_succ])
    | (refine' Way.yes 6 (by rfl) (by kernel_rfl) (by rfl) (fun wS hS => ?_) ?_
       rotate_left
       · obtain ⟨h_o, h_r, h_u⟩ := (S1_0D.out _).1 hS
         have c0 := h_r.c0
         have cd0 := h_r.c1
         have e1 := HC1.out _ h_u
         have e2 := HC2.out _ h_u
         have e3 := HD1.out _ h_u
         have e4 := HD2.out _ h_u
         go_simp
         first
           | exact ⟨rfl, Below.refl _ _⟩
       simp only [Act.put, List.setIfInBounds_toArray, List.set_cons_zero, List.set_cons_succ])
  first
    | (refine Way.no 7 (by rfl) (by kernel_rfl) (by rfl) ?_; simp only [Act.put, List.setIfInBounds_toArray, List.set_cons_zero, List.set_cons_succ])
    | (refine' Way.yes 7 (by rfl) (by kernel_rfl) (by rfl) (fun wS hS => ?_) ?_
       rotate_left
       · obtain ⟨h_o, h_r, h_u⟩ := (S1_0D.out _).1 hS
         have c0 := h_r.c0
         have cd0 := h_r.c1
         have e1 := HC1.out _ h_u
         have e2 := HC2.out _ h_u
         have e3 := HD1.out _ h_u
         have e4 := HD2.out _ h_u
         go_simp
         first
           | exact ⟨rfl, Below.refl _ _⟩
       simp only [Act.put, List.setIfInBounds_toArray, List.set_cons_zero, List.set_cons_succ])
  first
    | (refine Way.no 8 (by rfl) (by kernel_rfl) (by rfl) ?_; simp only [Act.put, List.setIfInBounds_toArray, List.set_cons_zero, List.set_cons_succ])
    | (refine' Way.yes 8 (by rfl) (by kernel_rfl) (by rfl) (fun wS hS => ?_) ?_
       rotate_left
       · obtain ⟨h_o, h_r, h_u⟩ := (S1_0D.out _).1 hS
         have c0 := h_r.c0
         have cd0 := h_r.c1
         have e1 := HC1.out _ h_u
         have e2 := HC2.out _ h_u
         have e3 := HD1.out _ h_u
         have e4 := HD2.out _ h_u
         go_simp
         first
           | exact ⟨rfl, Below.refl _ _⟩
       simp only [Act.put, List.setIfInBounds_toArray, List.set_cons_zero, List.set_cons_succ])
  first
    | (refine Way.no 9 (by rfl) (by kernel_rfl) (by rfl) ?_; simp only [Act.put, List.setIfInBounds_toArray, List.set_cons_zero, List.set_cons_succ])
    | (refine' Way.yes 9 (by rfl) (by kernel_rfl) (by rfl) (fun wS hS => ?_) ?_
       rotate_left
       · obtain ⟨h_o, h_r, h_u⟩ := (S1_0D.out _).1 hS
         have c0 := h_r.c0
         have cd0 := h_r.c1
         have e1 := HC1.out _ h_u
         have e2 := HC2.out _ h_u
         have e3 := HD1.out _ h_u
         have e4 := HD2.out _ h_u
         go_simp
         first
           | exact ⟨rfl, Below.refl _ _⟩
       simp only [Act.put, List.setIfInBounds_toArray, List.set_cons_zero, List.set_cons_succ])
  first
    | (refine Way.no 10 (by rfl) (by kernel_rfl) (by rfl) ?_; simp only [Act.put, List.setIfInBounds_toArray, List.set_cons_zero, List.set_cons_succ])
    | (refine' Way.yes 10 (by rfl) (by kernel_rfl) (by rfl) (fun wS hS => ?_) ?_
       rotate_left
       · obtain ⟨h_o, h_r, h_u⟩ := (S1_0D.out _).1 hS
         have c0 := h_r.c0
         have cd0 := h_r.c1
         have e1 := HC1.out _ h_u
         have e2 := HC2.out _ h_u
         have e3 := HD1.out _ h_u
         have e4 := HD2.out _ h_u
         go_simp
         first
           | exact ⟨rfl, Below.refl _ _⟩
       simp only [Act.put, List.setIfInBounds_toArray, List.set_cons_zero, List.set_cons_succ])
  first
    | (refine Way.no 11 (by rfl) (by kernel_rfl) (by rfl) ?_; simp only [Act.put, List.setIfInBounds_toArray, List.set_cons_zero, List.set_cons_succ])
    | (refine' Way.yes 11 (by rfl) (by kernel_rfl) (by rfl) (fun wS hS => ?_) ?_
       rotate_left
       · obtain ⟨h_o, h_r, h_u⟩ := (S1_0D.out _).1 hS
         have c0 := h_r.c0
         have cd0 := h_r.c1
         have e1 := HC1.out _ h_u
         have e2 := HC2.out _ h_u
         have e3 := HD1.out _ h_u
         have e4 := HD2.out _ h_u
         go_simp
         first
           | exact ⟨rfl, Below.refl _ _⟩
       simp only [Act.put, List.setIfInBounds_toArray, List.set_cons_zero, List.set_cons_succ])
  first
    | (refine Way.no 12 (by rfl) (by kernel_rfl) (by rfl) ?_; simp only [Act.put, List.setIfInBounds_toArray, List.set_cons_zero, List.set_cons_succ])
    | (refine' Way.yes 12 (by rfl) (by kernel_rfl) (by rfl) (fun wS hS => ?_) ?_
       rotate_left
       · obtain ⟨h_o, h_r, h_u⟩ := (S1_0D.out _).1 hS
         have c0 := h_r.c0
         have cd0 := h_r.c1
         have e1 := HC1.out _ h_u
         have e2 := HC2.out _ h_u
         have e3 := HD1.out _ h_u
         have e4 := HD2.out _ h_u
         go_simp
         first
           | exact ⟨rfl, Below.refl _ _⟩
       simp only [Act.put, List.setIfInBounds_toArray, List.set_cons_zero, List.set_cons_succ])
  first
    | (refine Way.no 13 (by rfl) (by kernel_rfl) (by rfl) ?_; simp only [Act.put, List.setIfInBounds_toArray, List.set_cons_zero, List.set_cons_succ])
    | (refine' Way.yes 13 (by rfl) (by kernel_rfl) (by rfl) (fun wS hS => ?_) ?_
       rotate_left
       · obtain ⟨h_o, h_r, h_u⟩ := (S1_0D.out _).1 hS
         have c0 := h_r.c0
         have cd0 := h_r.c1
         have e1 := HC1.out _ h_u
         have e2 := HC2.out _ h_u
         have e3 := HD1.out _ h_u
         have e4 := HD2.out _ h_u
         go_simp
         first
           | exact ⟨rfl, Below.refl _ _⟩
       simp only [Act.put, List.setIfInBounds_toArray, List.set_cons_zero, List.set_cons_succ])
  refine Way.allocs2 (.slice none 0 0) (w.heap.size + 1) 14 15 26 31 7 8 (by kernel_rfl) (by decide) (by decide) ⟨_, rfl, rfl, rfl, fun ρ w => by go_simp⟩ ⟨_, rfl, rfl, rfl, fun ρ w => by go_simp⟩ (fun W W' h hb => by obtain ⟨h_o, h_r, h_u⟩ := (S1_0D.out _).1 h; exact (S1_0D.out _).2 ⟨h_o.below hb h_o.lt, h_r.below hb, keepb h_u hb⟩) (fun W h => by obtain ⟨h_o, h_r, h_u⟩ := (S1_0D.out _).1 h; exact h_o.lt) ?_
  intro g7 g8 b_g7 b_g8 n_g7_g8 S1_1 hS2
  have S1_1D : Go.RowKit.Hid (∀ w' : World, S1_1 w' ↔ ((Blk w' w.heap.size 37 #[.int .i64 kind, .int .i64 a, .int .i64 b, wv N, .int .i64 K, .string ⟨s.toArray⟩]) ∧ (RowS base hi w' rb gp cp gd cd xs xs P D) ∧ (Below w.heap.size w w') ∧ (BlkU w' g7 26) ∧ (BlkU w' g8 31))) := Lib.hid (fun w' => (hS2 w').trans ⟨fun h => by obtain ⟨h_o, h_r, h_u⟩ := (S1_0D.out _).1 h.1; exact ⟨h_o, h_r, h_u, h.2⟩, fun h => by obtain ⟨h_o, h_r, h_u, h_z_g7, h_z_g8⟩ := h; exact ⟨(S1_0D.out _).2 ⟨h_o, h_r, h_u⟩, ⟨h_z_g7, h_z_g8⟩⟩⟩)
  clear hS2
  try simp only [Act.put, List.setIfInBounds_toArray, List.set_cons_zero, List.set_cons_succ]
  refine Way.move 16 (by rfl) (by kernel_rfl) (by rfl) (fun wA hS => ?_)
  obtain ⟨h_o, h_r, h_u, h_z_g7, h_z_g8⟩ := (S1_1D.out _).1 hS
  clear hS
  obtain ⟨u0, hu0⟩ := h_z_g7
  have f0 := hu0.frozen 0
  have k0 := hu0.cell 0
  simp at k0
  have h_z_g7 : BlkU wA g7 26 := ⟨u0, hu0⟩
  have ho1 := h_r.hrb
  have ho2 := h_r.hgp
  have ho3 := h_r.hgd
  have ho4 := HHI.out
  go_simp
  obtain ⟨S1_2, S1_2D⟩ : ∃ S : World → Prop, Go.RowKit.Hid (∀ w' : World, S w' ↔ ((Blk w' w.heap.size 37 #[.int .i64 kind, .int .i64 a, .int .i64 b, wv N, .int .i64 K, .string ⟨s.toArray⟩]) ∧ (RowS base hi w' rb gp cp gd cd xs xs P D) ∧ (Below w.heap.size w w') ∧ (BlkU w' g7 26) ∧ (BlkU w' g8 31) ∧ (Blk w' g7 26 #[.slice A1 n1 c1]))) := ⟨_, Lib.hid (fun _ => Iff.rfl)⟩
  refine Moved.keep S1_2 (fun W W' h hb => by obtain ⟨h_o, h_r, h_u, h_z_g7, h_z_g8, h_n⟩ := (S1_2D.out _).1 h; exact (S1_2D.out _).2 ⟨h_o.below hb h_o.lt, h_r.below hb, keepb h_u hb, h_z_g7.below hb, h_z_g8.below hb, h_n.below hb h_n.lt⟩) (fun W h => by obtain ⟨h_o, h_r, h_u, h_z_g7, h_z_g8, h_n⟩ := (S1_2D.out _).1 h; exact (S1_1D.out _).2 ⟨h_o, h_r, h_u, h_z_g7, h_z_g8⟩) ((S1_2D.out _).2 ⟨h_o.far (by first | (dsimp only; omega) | (simp; done) | (simp; omega)) _, h_r.farr (by first | (simp; omega) | omega) hu0 (by decide) (by decide) _, h_u.setCell (by first | (dsimp only; omega) | (simp; done) | (simp; omega)) _, ⟨_, h_z_g7.set _⟩, h_z_g8.far (by first | (dsimp only; omega) | (simp; done) | (simp; omega)) _, h_z_g7.set _⟩) ?_
  clear h_o h_r h_u h_z_g7 h_z_g8 hu0 f0 k0 ho1 ho2 ho3 ho4
  try simp only [Act.put, List.setIfInBounds_toArray, List.set_cons_zero, List.set_cons_succ]
  refine Way.move 17 (by rfl) (by kernel_rfl) (by rfl) (fun wA hS => ?_)
  obtain ⟨h_o, h_r, h_u, h_z_g7, h_z_g8, h_n⟩ := (S1_2D.out _).1 hS
  clear hS
  obtain ⟨u0, hu0⟩ := h_z_g8
  have f0 := hu0.frozen 0
  have k0 := hu0.cell 0
  simp at k0
  have h_z_g8 : BlkU wA g8 31 := ⟨u0, hu0⟩
  have ho1 := h_r.hrb
  have ho2 := h_r.hgp
  have ho3 := h_r.hgd
  have ho4 := HHI.out
  go_simp
  obtain ⟨S1_3, S1_3D⟩ : ∃ S : World → Prop, Go.RowKit.Hid (∀ w' : World, S w' ↔ ((Blk w' w.heap.size 37 #[.int .i64 kind, .int .i64 a, .int .i64 b, wv N, .int .i64 K, .string ⟨s.toArray⟩]) ∧ (RowS base hi w' rb gp cp gd cd xs xs P D) ∧ (Below w.heap.size w w') ∧ (BlkU w' g7 26) ∧ (BlkU w' g8 31) ∧ (Blk w' g7 26 #[.slice A1 n1 c1]) ∧ (Blk w' g8 31 #[.slice B1 m1 d1]))) := ⟨_, Lib.hid (fun _ => Iff.rfl)⟩
  refine Moved.keep S1_3 (fun W W' h hb => by obtain ⟨h_o, h_r, h_u, h_z_g7, h_z_g8, h_n, h_x⟩ := (S1_3D.out _).1 h; exact (S1_3D.out _).2 ⟨h_o.below hb h_o.lt, h_r.below hb, keepb h_u hb, h_z_g7.below hb, h_z_g8.below hb, h_n.below hb h_n.lt, h_x.below hb h_x.lt⟩) (fun W h => by obtain ⟨h_o, h_r, h_u, h_z_g7, h_z_g8, h_n, h_x⟩ := (S1_3D.out _).1 h; exact (S1_2D.out _).2 ⟨h_o, h_r, h_u, h_z_g7, h_z_g8, h_n⟩) ((S1_3D.out _).2 ⟨h_o.far (by first | (dsimp only; omega) | (simp; done) | (simp; omega)) _, h_r.farr (by first | (simp; omega) | omega) hu0 (by decide) (by decide) _, h_u.setCell (by first | (dsimp only; omega) | (simp; done) | (simp; omega)) _, h_z_g7.far (by first | (dsimp only; omega) | (simp; done) | (simp; omega)) _, ⟨_, h_z_g8.set _⟩, h_n.far (by first | (dsimp only; omega) | (simp; done) | (simp; omega)) _, h_z_g8.set _⟩) ?_
  clear h_o h_r h_u h_z_g7 h_z_g8 h_n hu0 f0 k0 ho1 ho2 ho3 ho4
  try simp only [Act.put, List.setIfInBounds_toArray, List.set_cons_zero, List.set_cons_succ]
  refine Way.done (by kernel_rfl) (fun v2 hS => ?_)
  obtain ⟨h_o, h_r, h_u, h_z_g7, h_z_g8, h_n, h_x⟩ := (S1_3D.out _).1 hS
  have H_o := Lib.hid h_o
  have H_r := Lib.hid h_r
  have H_u := Lib.hid h_u
  have H_z_g7 := Lib.hid h_z_g7
  have H_z_g8 := Lib.hid h_z_g8
  have H_n := Lib.hid h_n
  have H_x := Lib.hid h_x
  clear hS h_o h_r h_u h_z_g7 h_z_g8 h_n h_x
  clear H_z_g7 H_z_g8 HPA HPB n_g7_g8
  rcases hkind with rfl | rfl | rfl | rfl | hk
  · have HCM := Lib.hid (fun W (hb : Below w.heap.size w W) => cmp_nat _ _ x y W (HN1.out W hb) (HN2.out W hb) (by have := HX.out; rw [HMM.out] at this; omega) (by have := HYY.out; rw [HMM.out] at this; omega))
    have HAG := Lib.hid (fun W (hb : Below w.heap.size w W) => ragainst_v HZ.out _ _ x y W (HR1.out W hb) (HR2.out W hb) (b4_up (two_b4 HX.out HYY.out HMM.out HM4.out HY.out).1 (by have := HY.out; have := HZ.out; omega)) (b4_up (two_b4 HX.out HYY.out HMM.out HM4.out HY.out).2.1 (by have := HY.out; have := HZ.out; omega)))
    obtain ⟨z, hz⟩ : ∃ z, cmpI x y = z := ⟨_, rfl⟩
    rw [hz] at HCM HAG
    have tz : (z == z) = true := by simp
    clear hz
    have fk := H_o.out.cell 0
    simp only [List.getElem?_toArray, List.getElem?_cons_zero, List.getElem?_cons_succ] at fk
    go_upto_region 5 with fail
    clear fk
    obtain ⟨S2_0, S2_0D⟩ : ∃ S : World → Prop, Go.RowKit.Hid (∀ w' : World, S w' ↔ ((Blk w' w.heap.size 37 #[.int .i64 10, .int .i64 a, .int .i64 b, wv N, .int .i64 K, .string ⟨s.toArray⟩]) ∧ (RowS base hi w' rb gp cp gd cd xs xs P D) ∧ (Below w.heap.size w w') ∧ (Blk w' g7 26 #[.slice A1 n1 c1]) ∧ (Blk w' g8 31 #[.slice B1 m1 d1]))) := ⟨_, Lib.hid (fun _ => Iff.rfl)⟩
    refine wp_region_way (S := S2_0) (by kernel_rfl) (by kernel_rfl) (fun W W' h hb => by obtain ⟨h_o, h_r, h_u, h_n, h_x⟩ := (S2_0D.out _).1 h; exact (S2_0D.out _).2 ⟨h_o.below hb h_o.lt, h_r.below hb, keepb h_u hb, h_n.below hb h_n.lt, h_x.below hb h_x.lt⟩) ((S2_0D.out _).2 ⟨H_o.out.below (Below.refl v2.heap.size v2).drew H_o.out.lt, H_r.out.below (Below.refl v2.heap.size v2).drew, keepb H_u.out (Below.refl v2.heap.size v2).drew, H_n.out.below (Below.refl v2.heap.size v2).drew H_n.out.lt, H_x.out.below (Below.refl v2.heap.size v2).drew H_x.out.lt⟩) ?_
    first
      | (refine Way.no 0 (by rfl) (by kernel_rfl) (by rfl) ?_; simp only [Act.put, List.setIfInBounds_toArray, List.set_cons_zero, List.set_cons_succ])
      | (refine' Way.yes 0 (by rfl) (by kernel_rfl) (by rfl) (fun wS hS => ?_) ?_
         rotate_left
         · obtain ⟨h_o, h_r, h_u, h_n, h_x⟩ := (S2_0D.out _).1 hS
           have c0 := h_r.c0
           have cd0 := h_r.c1
           have e2 := HC2.out _ h_u
           have e4 := HD2.out _ h_u
           have cn := h_n.cell 0
           have cx := h_x.cell 0
           simp at cn cx
           go_simp
           first
             | exact ⟨rfl, Below.refl _ _⟩
         simp only [Act.put, List.setIfInBounds_toArray, List.set_cons_zero, List.set_cons_succ])
    first
      | (refine Way.no 1 (by rfl) (by kernel_rfl) (by rfl) ?_; simp only [Act.put, List.setIfInBounds_toArray, List.set_cons_zero, List.set_cons_succ])
      | (refine' Way.yes 1 (by rfl) (by kernel_rfl) (by rfl) (fun wS hS => ?_) ?_
         rotate_left
         · obtain ⟨h_o, h_r, h_u, h_n, h_x⟩ := (S2_0D.out _).1 hS
           have c0 := h_r.c0
           have cd0 := h_r.c1
           have e2 := HC2.out _ h_u
           have e4 := HD2.out _ h_u
           have cn := h_n.cell 0
           have cx := h_x.cell 0
           simp at cn cx
           go_simp
           first
             | exact ⟨rfl, Below.refl _ _⟩
         simp only [Act.put, List.setIfInBounds_toArray, List.set_cons_zero, List.set_cons_succ])
    first
      | (refine Way.no 2 (by rfl) (by kernel_rfl) (by rfl) ?_; simp only [Act.put, List.setIfInBounds_toArray, List.set_cons_zero, List.set_cons_succ])
      | (refine' Way.yes 2 (by rfl) (by kernel_rfl) (by rfl) (fun wS hS => ?_) ?_
         rotate_left
         · obtain ⟨h_o, h_r, h_u, h_n, h_x⟩ := (S2_0D.out _).1 hS
           have c0 := h_r.c0
           have cd0 := h_r.c1
           have e2 := HC2.out _ h_u
           have e4 := HD2.out _ h_u
           have cn := h_n.cell 0
           have cx := h_x.cell 0
           simp at cn cx
           go_simp
           first
             | exact ⟨rfl, Below.refl _ _⟩
         simp only [Act.put, List.setIfInBounds_toArray, List.set_cons_zero, List.set_cons_succ])
    first
      | (refine Way.no 3 (by rfl) (by kernel_rfl) (by rfl) ?_; simp only [Act.put, List.setIfInBounds_toArray, List.set_cons_zero, List.set_cons_succ])
      | (refine' Way.yes 3 (by rfl) (by kernel_rfl) (by rfl) (fun wS hS => ?_) ?_
         rotate_left
         · obtain ⟨h_o, h_r, h_u, h_n, h_x⟩ := (S2_0D.out _).1 hS
           have c0 := h_r.c0
           have cd0 := h_r.c1
           have e2 := HC2.out _ h_u
           have e4 := HD2.out _ h_u
           have cn := h_n.cell 0
           have cx := h_x.cell 0
           simp at cn cx
           go_simp
           first
             | exact ⟨rfl, Below.refl _ _⟩
         simp only [Act.put, List.setIfInBounds_toArray, List.set_cons_zero, List.set_cons_succ])
    first
      | (refine Way.no 4 (by rfl) (by kernel_rfl) (by rfl) ?_; simp only [Act.put, List.setIfInBounds_toArray, List.set_cons_zero, List.set_cons_succ])
      | (refine' Way.yes 4 (by rfl) (by kernel_rfl) (by rfl) (fun wS hS => ?_) ?_
         rotate_left
         · obtain ⟨h_o, h_r, h_u, h_n, h_x⟩ := (S2_0D.out _).1 hS
           have c0 := h_r.c0
           have cd0 := h_r.c1
           have e2 := HC2.out _ h_u
           have e4 := HD2.out _ h_u
           have cn := h_n.cell 0
           have cx := h_x.cell 0
           simp at cn cx
           go_simp
           first
             | exact ⟨rfl, Below.refl _ _⟩
         simp only [Act.put, List.setIfInBounds_toArray, List.set_cons_zero, List.set_cons_succ])
    first
      | (refine Way.no 5 (by rfl) (by kernel_rfl) (by rfl) ?_; simp only [Act.put, List.setIfInBounds_toArray, List.set_cons_zero, List.set_cons_succ])
      | (refine' Way.yes 5 (by rfl) (by kernel_rfl) (by rfl) (fun wS hS => ?_) ?_
         rotate_left
         · obtain ⟨h_o, h_r, h_u, h_n, h_x⟩ := (S2_0D.out _).1 hS
           have c0 := h_r.c0
           have cd0 := h_r.c1
           have e2 := HC2.out _ h_u
           have e4 := HD2.out _ h_u
           have cn := h_n.cell 0
           have cx := h_x.cell 0
           simp at cn cx
           go_simp
           first
             | exact ⟨rfl, Below.refl _ _⟩
         simp only [Act.put, List.setIfInBounds_toArray, List.set_cons_zero, List.set_cons_succ])
    first
      | (refine Way.no 6 (by rfl) (by kernel_rfl) (by rfl) ?_; simp only [Act.put, List.setIfInBounds_toArray, List.set_cons_zero, List.set_cons_succ])
      | (refine' Way.yes 6 (by rfl) (by kernel_rfl) (by rfl) (fun wS hS => ?_) ?_
         rotate_left
         · obtain ⟨h_o, h_r, h_u, h_n, h_x⟩ := (S2_0D.out _).1 hS
           have c0 := h_r.c0
           have cd0 := h_r.c1
           have e2 := HC2.out _ h_u
           have e4 := HD2.out _ h_u
           have cn := h_n.cell 0
           have cx := h_x.cell 0
           simp at cn cx
           go_simp
           first
             | exact ⟨rfl, Below.refl _ _⟩
         simp only [Act.put, List.setIfInBounds_toArray, List.set_cons_zero, List.set_cons_succ])
    first
      | (refine Way.no 7 (by rfl) (by kernel_rfl) (by rfl) ?_; simp only [Act.put, List.setIfInBounds_toArray, List.set_cons_zero, List.set_cons_succ])
      | (refine' Way.yes 7 (by rfl) (by kernel_rfl) (by rfl) (fun wS hS => ?_) ?_
         rotate_left
         · obtain ⟨h_o, h_r, h_u, h_n, h_x⟩ := (S2_0D.out _).1 hS
           have c0 := h_r.c0
           have cd0 := h_r.c1
           have e2 := HC2.out _ h_u
           have e4 := HD2.out _ h_u
           have cn := h_n.cell 0
           have cx := h_x.cell 0
           simp at cn cx
           go_simp
           first
             | exact ⟨rfl, Below.refl _ _⟩
         simp only [Act.put, List.setIfInBounds_toArray, List.set_cons_zero, List.set_cons_succ])
    refine' Way.yes (v := .int .i64 z) 8 (by rfl) (by kernel_rfl) (by rfl) (fun wS hS => ?_) ?_
    · obtain ⟨h_o, h_r, h_u, h_n, h_x⟩ := (S2_0D.out _).1 hS
      go_simp
      exact (HCM.out _ h_u).mono fun e w2 h => h
    simp only [Act.put, List.setIfInBounds_toArray, List.set_cons_zero, List.set_cons_succ]
    first
      | (refine Way.no 9 (by rfl) (by kernel_rfl) (by rfl) ?_; simp only [Act.put, List.setIfInBounds_toArray, List.set_cons_zero, List.set_cons_succ])
      | (refine' Way.yes 9 (by rfl) (by kernel_rfl) (by rfl) (fun wS hS => ?_) ?_
         rotate_left
         · obtain ⟨h_o, h_r, h_u, h_n, h_x⟩ := (S2_0D.out _).1 hS
           have c0 := h_r.c0
           have cd0 := h_r.c1
           have e2 := HC2.out _ h_u
           have e4 := HD2.out _ h_u
           have cn := h_n.cell 0
           have cx := h_x.cell 0
           simp at cn cx
           go_simp
           first
             | exact ⟨rfl, Below.refl _ _⟩
         simp only [Act.put, List.setIfInBounds_toArray, List.set_cons_zero, List.set_cons_succ])
    first
      | (refine Way.no 10 (by rfl) (by kernel_rfl) (by rfl) ?_; simp only [Act.put, List.setIfInBounds_toArray, List.set_cons_zero, List.set_cons_succ])
      | (refine' Way.yes 10 (by rfl) (by kernel_rfl) (by rfl) (fun wS hS => ?_) ?_
         rotate_left
         · obtain ⟨h_o, h_r, h_u, h_n, h_x⟩ := (S2_0D.out _).1 hS
           have c0 := h_r.c0
           have cd0 := h_r.c1
           have e2 := HC2.out _ h_u
           have e4 := HD2.out _ h_u
           have cn := h_n.cell 0
           have cx := h_x.cell 0
           simp at cn cx
           go_simp
           first
             | exact ⟨rfl, Below.refl _ _⟩
         simp only [Act.put, List.setIfInBounds_toArray, List.set_cons_zero, List.set_cons_succ])
    first
      | (refine Way.no 11 (by rfl) (by kernel_rfl) (by rfl) ?_; simp only [Act.put, List.setIfInBounds_toArray, List.set_cons_zero, List.set_cons_succ])
      | (refine' Way.yes 11 (by rfl) (by kernel_rfl) (by rfl) (fun wS hS => ?_) ?_
         rotate_left
         · obtain ⟨h_o, h_r, h_u, h_n, h_x⟩ := (S2_0D.out _).1 hS
           have c0 := h_r.c0
           have cd0 := h_r.c1
           have e2 := HC2.out _ h_u
           have e4 := HD2.out _ h_u
           have cn := h_n.cell 0
           have cx := h_x.cell 0
           simp at cn cx
           go_simp
           first
             | exact ⟨rfl, Below.refl _ _⟩
         simp only [Act.put, List.setIfInBounds_toArray, List.set_cons_zero, List.set_cons_succ])
    first
      | (refine Way.no 12 (by rfl) (by kernel_rfl) (by rfl) ?_; simp only [Act.put, List.setIfInBounds_toArray, List.set_cons_zero, List.set_cons_succ])
      | (refine' Way.yes 12 (by rfl) (by kernel_rfl) (by rfl) (fun wS hS => ?_) ?_
         rotate_left
         · obtain ⟨h_o, h_r, h_u, h_n, h_x⟩ := (S2_0D.out _).1 hS
           have c0 := h_r.c0
           have cd0 := h_r.c1
           have e2 := HC2.out _ h_u
           have e4 := HD2.out _ h_u
           have cn := h_n.cell 0
           have cx := h_x.cell 0
           simp at cn cx
           go_simp
           first
             | exact ⟨rfl, Below.refl _ _⟩
         simp only [Act.put, List.setIfInBounds_toArray, List.set_cons_zero, List.set_cons_succ])
    first
      | (refine Way.no 13 (by rfl) (by kernel_rfl) (by rfl) ?_; simp only [Act.put, List.setIfInBounds_toArray, List.set_cons_zero, List.set_cons_succ])
      | (refine' Way.yes 13 (by rfl) (by kernel_rfl) (by rfl) (fun wS hS => ?_) ?_
         rotate_left
         · obtain ⟨h_o, h_r, h_u, h_n, h_x⟩ := (S2_0D.out _).1 hS
           have c0 := h_r.c0
           have cd0 := h_r.c1
           have e2 := HC2.out _ h_u
           have e4 := HD2.out _ h_u
           have cn := h_n.cell 0
           have cx := h_x.cell 0
           simp at cn cx
           go_simp
           first
             | exact ⟨rfl, Below.refl _ _⟩
         simp only [Act.put, List.setIfInBounds_toArray, List.set_cons_zero, List.set_cons_succ])
    first
      | (refine Way.no 14 (by rfl) (by kernel_rfl) (by rfl) ?_; simp only [Act.put, List.setIfInBounds_toArray, List.set_cons_zero, List.set_cons_succ])
      | (refine' Way.yes 14 (by rfl) (by kernel_rfl) (by rfl) (fun wS hS => ?_) ?_
         rotate_left
         · obtain ⟨h_o, h_r, h_u, h_n, h_x⟩ := (S2_0D.out _).1 hS
           have c0 := h_r.c0
           have cd0 := h_r.c1
           have e2 := HC2.out _ h_u
           have e4 := HD2.out _ h_u
           have cn := h_n.cell 0
           have cx := h_x.cell 0
           simp at cn cx
           go_simp
           first
             | exact ⟨rfl, Below.refl _ _⟩
         simp only [Act.put, List.setIfInBounds_toArray, List.set_cons_zero, List.set_cons_succ])
    first
      | (refine Way.no 15 (by rfl) (by kernel_rfl) (by rfl) ?_; simp only [Act.put, List.setIfInBounds_toArray, List.set_cons_zero, List.set_cons_succ])
      | (refine' Way.yes 15 (by rfl) (by kernel_rfl) (by rfl) (fun wS hS => ?_) ?_
         rotate_left
         · obtain ⟨h_o, h_r, h_u, h_n, h_x⟩ := (S2_0D.out _).1 hS
           have c0 := h_r.c0
           have cd0 := h_r.c1
           have e2 := HC2.out _ h_u
           have e4 := HD2.out _ h_u
           have cn := h_n.cell 0
           have cx := h_x.cell 0
           simp at cn cx
           go_simp
           first
             | exact ⟨rfl, Below.refl _ _⟩
         simp only [Act.put, List.setIfInBounds_toArray, List.set_cons_zero, List.set_cons_succ])
    first
      | (refine Way.no 16 (by rfl) (by kernel_rfl) (by rfl) ?_; simp only [Act.put, List.setIfInBounds_toArray, List.set_cons_zero, List.set_cons_succ])
      | (refine' Way.yes 16 (by rfl) (by kernel_rfl) (by rfl) (fun wS hS => ?_) ?_
         rotate_left
         · obtain ⟨h_o, h_r, h_u, h_n, h_x⟩ := (S2_0D.out _).1 hS
           have c0 := h_r.c0
           have cd0 := h_r.c1
           have e2 := HC2.out _ h_u
           have e4 := HD2.out _ h_u
           have cn := h_n.cell 0
           have cx := h_x.cell 0
           simp at cn cx
           go_simp
           first
             | exact ⟨rfl, Below.refl _ _⟩
         simp only [Act.put, List.setIfInBounds_toArray, List.set_cons_zero, List.set_cons_succ])
    refine' Way.yes (v := .int .i64 z) 17 (by rfl) (by kernel_rfl) (by rfl) (fun wS hS => ?_) ?_
    · obtain ⟨h_o, h_r, h_u, h_n, h_x⟩ := (S2_0D.out _).1 hS
      go_simp
      exact (HAG.out _ h_u).mono fun e w2 h => h
    simp only [Act.put, List.setIfInBounds_toArray, List.set_cons_zero, List.set_cons_succ]
    first
      | (refine Way.no 18 (by rfl) (by kernel_rfl) (by rfl) ?_; simp only [Act.put, List.setIfInBounds_toArray, List.set_cons_zero, List.set_cons_succ])
      | (refine' Way.yes 18 (by rfl) (by kernel_rfl) (by rfl) (fun wS hS => ?_) ?_
         rotate_left
         · obtain ⟨h_o, h_r, h_u, h_n, h_x⟩ := (S2_0D.out _).1 hS
           have c0 := h_r.c0
           have cd0 := h_r.c1
           have e2 := HC2.out _ h_u
           have e4 := HD2.out _ h_u
           have cn := h_n.cell 0
           have cx := h_x.cell 0
           simp at cn cx
           go_simp
           first
             | exact ⟨rfl, Below.refl _ _⟩
         simp only [Act.put, List.setIfInBounds_toArray, List.set_cons_zero, List.set_cons_succ])
    first
      | (refine Way.no 19 (by rfl) (by kernel_rfl) (by rfl) ?_; simp only [Act.put, List.setIfInBounds_toArray, List.set_cons_zero, List.set_cons_succ])
      | (refine' Way.yes 19 (by rfl) (by kernel_rfl) (by rfl) (fun wS hS => ?_) ?_
         rotate_left
         · obtain ⟨h_o, h_r, h_u, h_n, h_x⟩ := (S2_0D.out _).1 hS
           have c0 := h_r.c0
           have cd0 := h_r.c1
           have e2 := HC2.out _ h_u
           have e4 := HD2.out _ h_u
           have cn := h_n.cell 0
           have cx := h_x.cell 0
           simp at cn cx
           go_simp
           first
             | exact ⟨rfl, Below.refl _ _⟩
         simp only [Act.put, List.setIfInBounds_toArray, List.set_cons_zero, List.set_cons_succ])
    refine Way.done (by kernel_rfl) (fun wE hS => ?_)
    obtain ⟨h_o, h_r, h_u, h_n, h_x⟩ := (S2_0D.out _).1 hS
    have H_o := Lib.hid h_o
    have H_r := Lib.hid h_r
    have H_u := Lib.hid h_u
    have H_n := Lib.hid h_n
    have H_x := Lib.hid h_x
    clear hS h_o h_r h_u h_n h_x
    go_wp2_with fail
    go_ret
    exact ⟨rfl, ⟨hi, xs, Nat.le_refl _, by omega, ⟨_, _, _, _, _, _, H_r.out⟩⟩, H_u.out.mono HBL.out⟩
  · have HCM := Lib.hid (fun W (hb : Below w.heap.size w W) => len_nat _ x W (HN1.out W hb) (by have := HX.out; rw [HMM.out] at this; omega))
    have HAG := Lib.hid (fun W (hb : Below w.heap.size w W) => rbits_nat _ x Y W (HR1.out W hb) (two_b4 HX.out HX.out HMM.out HM4.out HY.out).1 (by have := HY.out; omega))
    obtain ⟨z, hz⟩ : ∃ z, blen x = z := ⟨_, rfl⟩
    rw [hz] at HCM HAG
    have tz : ((z : Int) == (z : Int)) = true := by simp
    clear hz
    have fk := H_o.out.cell 0
    simp only [List.getElem?_toArray, List.getElem?_cons_zero, List.getElem?_cons_succ] at fk
    go_upto_region 7 with fail
    clear fk
    obtain ⟨S3_0, S3_0D⟩ : ∃ S : World → Prop, Go.RowKit.Hid (∀ w' : World, S w' ↔ ((Blk w' w.heap.size 37 #[.int .i64 11, .int .i64 a, .int .i64 b, wv N, .int .i64 K, .string ⟨s.toArray⟩]) ∧ (RowS base hi w' rb gp cp gd cd xs xs P D) ∧ (Below w.heap.size w w') ∧ (Blk w' g7 26 #[.slice A1 n1 c1]) ∧ (Blk w' g8 31 #[.slice B1 m1 d1]))) := ⟨_, Lib.hid (fun _ => Iff.rfl)⟩
    refine wp_region_way (S := S3_0) (by kernel_rfl) (by kernel_rfl) (fun W W' h hb => by obtain ⟨h_o, h_r, h_u, h_n, h_x⟩ := (S3_0D.out _).1 h; exact (S3_0D.out _).2 ⟨h_o.below hb h_o.lt, h_r.below hb, keepb h_u hb, h_n.below hb h_n.lt, h_x.below hb h_x.lt⟩) ((S3_0D.out _).2 ⟨H_o.out.below (Below.refl v2.heap.size v2).drew H_o.out.lt, H_r.out.below (Below.refl v2.heap.size v2).drew, keepb H_u.out (Below.refl v2.heap.size v2).drew, H_n.out.below (Below.refl v2.heap.size v2).drew H_n.out.lt, H_x.out.below (Below.refl v2.heap.size v2).drew H_x.out.lt⟩) ?_
    first
      | (refine Way.no 0 (by rfl) (by kernel_rfl) (by rfl) ?_; simp only [Act.put, List.setIfInBounds_toArray, List.set_cons_zero, List.set_cons_succ])
      | (refine' Way.yes 0 (by rfl) (by kernel_rfl) (by rfl) (fun wS hS => ?_) ?_
         rotate_left
         · obtain ⟨h_o, h_r, h_u, h_n, h_x⟩ := (S3_0D.out _).1 hS
           have cn := h_n.cell 0
           have cx := h_x.cell 0
           simp at cn cx
           go_simp
           first
             | exact ⟨rfl, Below.refl _ _⟩
         simp only [Act.put, List.setIfInBounds_toArray, List.set_cons_zero, List.set_cons_succ])
    refine' Way.yes (v := .int .i64 (z : Nat)) 1 (by rfl) (by kernel_rfl) (by rfl) (fun wS hS => ?_) ?_
    · obtain ⟨h_o, h_r, h_u, h_n, h_x⟩ := (S3_0D.out _).1 hS
      go_simp
      exact (HCM.out _ h_u).mono fun e w2 h => h
    simp only [Act.put, List.setIfInBounds_toArray, List.set_cons_zero, List.set_cons_succ]
    first
      | (refine Way.no 2 (by rfl) (by kernel_rfl) (by rfl) ?_; simp only [Act.put, List.setIfInBounds_toArray, List.set_cons_zero, List.set_cons_succ])
      | (refine' Way.yes 2 (by rfl) (by kernel_rfl) (by rfl) (fun wS hS => ?_) ?_
         rotate_left
         · obtain ⟨h_o, h_r, h_u, h_n, h_x⟩ := (S3_0D.out _).1 hS
           have cn := h_n.cell 0
           have cx := h_x.cell 0
           simp at cn cx
           go_simp
           first
             | exact ⟨rfl, Below.refl _ _⟩
         simp only [Act.put, List.setIfInBounds_toArray, List.set_cons_zero, List.set_cons_succ])
    refine' Way.yes (v := .int .i64 (z : Nat)) 3 (by rfl) (by kernel_rfl) (by rfl) (fun wS hS => ?_) ?_
    · obtain ⟨h_o, h_r, h_u, h_n, h_x⟩ := (S3_0D.out _).1 hS
      go_simp
      exact (HAG.out _ h_u).mono fun e w2 h => h
    simp only [Act.put, List.setIfInBounds_toArray, List.set_cons_zero, List.set_cons_succ]
    first
      | (refine Way.no 4 (by rfl) (by kernel_rfl) (by rfl) ?_; simp only [Act.put, List.setIfInBounds_toArray, List.set_cons_zero, List.set_cons_succ])
      | (refine' Way.yes 4 (by rfl) (by kernel_rfl) (by rfl) (fun wS hS => ?_) ?_
         rotate_left
         · obtain ⟨h_o, h_r, h_u, h_n, h_x⟩ := (S3_0D.out _).1 hS
           have cn := h_n.cell 0
           have cx := h_x.cell 0
           simp at cn cx
           go_simp
           first
             | exact ⟨rfl, Below.refl _ _⟩
         simp only [Act.put, List.setIfInBounds_toArray, List.set_cons_zero, List.set_cons_succ])
    first
      | (refine Way.no 5 (by rfl) (by kernel_rfl) (by rfl) ?_; simp only [Act.put, List.setIfInBounds_toArray, List.set_cons_zero, List.set_cons_succ])
      | (refine' Way.yes 5 (by rfl) (by kernel_rfl) (by rfl) (fun wS hS => ?_) ?_
         rotate_left
         · obtain ⟨h_o, h_r, h_u, h_n, h_x⟩ := (S3_0D.out _).1 hS
           have cn := h_n.cell 0
           have cx := h_x.cell 0
           simp at cn cx
           go_simp
           first
             | exact ⟨rfl, Below.refl _ _⟩
         simp only [Act.put, List.setIfInBounds_toArray, List.set_cons_zero, List.set_cons_succ])
    refine Way.done (by kernel_rfl) (fun wE hS => ?_)
    obtain ⟨h_o, h_r, h_u, h_n, h_x⟩ := (S3_0D.out _).1 hS
    have H_o := Lib.hid h_o
    have H_r := Lib.hid h_r
    have H_u := Lib.hid h_u
    have H_n := Lib.hid h_n
    have H_x := Lib.hid h_x
    clear hS h_o h_r h_u h_n h_x
    go_wp2_with fail
    go_ret
    exact ⟨rfl, ⟨hi, xs, Nat.le_refl _, by omega, ⟨_, _, _, _, _, _, H_r.out⟩⟩, H_u.out.mono HBL.out⟩
  · have HCM := Lib.hid (fun W (hb : Below w.heap.size w W) => bit_nat _ x K W (HN1.out W hb) HWK.out)
    have HAG := Lib.hid (fun W (hb : Below w.heap.size w W) => rbit_nat _ x Y K W (HR1.out W hb) (two_b4 HX.out HX.out HMM.out HM4.out HY.out).1 (by have := HY.out; omega) HWK.out)
    obtain ⟨z, hz⟩ : ∃ z, bitV x K = z := ⟨_, rfl⟩
    rw [hz] at HCM HAG
    have tz : (z == z) = true := by simp
    clear hz
    have fk := H_o.out.cell 0
    simp only [List.getElem?_toArray, List.getElem?_cons_zero, List.getElem?_cons_succ] at fk
    go_upto_region 9 with fail
    clear fk
    obtain ⟨S4_0, S4_0D⟩ : ∃ S : World → Prop, Go.RowKit.Hid (∀ w' : World, S w' ↔ ((Blk w' w.heap.size 37 #[.int .i64 12, .int .i64 a, .int .i64 b, wv N, .int .i64 K, .string ⟨s.toArray⟩]) ∧ (RowS base hi w' rb gp cp gd cd xs xs P D) ∧ (Below w.heap.size w w') ∧ (Blk w' g7 26 #[.slice A1 n1 c1]) ∧ (Blk w' g8 31 #[.slice B1 m1 d1]))) := ⟨_, Lib.hid (fun _ => Iff.rfl)⟩
    refine wp_region_way (S := S4_0) (by kernel_rfl) (by kernel_rfl) (fun W W' h hb => by obtain ⟨h_o, h_r, h_u, h_n, h_x⟩ := (S4_0D.out _).1 h; exact (S4_0D.out _).2 ⟨h_o.below hb h_o.lt, h_r.below hb, keepb h_u hb, h_n.below hb h_n.lt, h_x.below hb h_x.lt⟩) ((S4_0D.out _).2 ⟨H_o.out.below (Below.refl v2.heap.size v2).drew H_o.out.lt, H_r.out.below (Below.refl v2.heap.size v2).drew, keepb H_u.out (Below.refl v2.heap.size v2).drew, H_n.out.below (Below.refl v2.heap.size v2).drew H_n.out.lt, H_x.out.below (Below.refl v2.heap.size v2).drew H_x.out.lt⟩) ?_
    first
      | (refine Way.no 0 (by rfl) (by kernel_rfl) (by rfl) ?_; simp only [Act.put, List.setIfInBounds_toArray, List.set_cons_zero, List.set_cons_succ])
      | (refine' Way.yes 0 (by rfl) (by kernel_rfl) (by rfl) (fun wS hS => ?_) ?_
         rotate_left
         · obtain ⟨h_o, h_r, h_u, h_n, h_x⟩ := (S4_0D.out _).1 hS
           have cn := h_n.cell 0
           have cx := h_x.cell 0
           simp at cn cx
           have c4 := h_o.cell 4
           simp only [List.getElem?_toArray, List.getElem?_cons_zero, List.getElem?_cons_succ] at c4
           go_simp
           first
             | exact ⟨rfl, Below.refl _ _⟩
         simp only [Act.put, List.setIfInBounds_toArray, List.set_cons_zero, List.set_cons_succ])
    first
      | (refine Way.no 1 (by rfl) (by kernel_rfl) (by rfl) ?_; simp only [Act.put, List.setIfInBounds_toArray, List.set_cons_zero, List.set_cons_succ])
      | (refine' Way.yes 1 (by rfl) (by kernel_rfl) (by rfl) (fun wS hS => ?_) ?_
         rotate_left
         · obtain ⟨h_o, h_r, h_u, h_n, h_x⟩ := (S4_0D.out _).1 hS
           have cn := h_n.cell 0
           have cx := h_x.cell 0
           simp at cn cx
           have c4 := h_o.cell 4
           simp only [List.getElem?_toArray, List.getElem?_cons_zero, List.getElem?_cons_succ] at c4
           go_simp
           first
             | exact ⟨rfl, Below.refl _ _⟩
         simp only [Act.put, List.setIfInBounds_toArray, List.set_cons_zero, List.set_cons_succ])
    first
      | (refine Way.no 2 (by rfl) (by kernel_rfl) (by rfl) ?_; simp only [Act.put, List.setIfInBounds_toArray, List.set_cons_zero, List.set_cons_succ])
      | (refine' Way.yes 2 (by rfl) (by kernel_rfl) (by rfl) (fun wS hS => ?_) ?_
         rotate_left
         · obtain ⟨h_o, h_r, h_u, h_n, h_x⟩ := (S4_0D.out _).1 hS
           have cn := h_n.cell 0
           have cx := h_x.cell 0
           simp at cn cx
           have c4 := h_o.cell 4
           simp only [List.getElem?_toArray, List.getElem?_cons_zero, List.getElem?_cons_succ] at c4
           go_simp
           first
             | exact ⟨rfl, Below.refl _ _⟩
         simp only [Act.put, List.setIfInBounds_toArray, List.set_cons_zero, List.set_cons_succ])
    refine' Way.yes (v := .bool z) 3 (by rfl) (by kernel_rfl) (by rfl) (fun wS hS => ?_) ?_
    · obtain ⟨h_o, h_r, h_u, h_n, h_x⟩ := (S4_0D.out _).1 hS
      go_simp
      exact (HCM.out _ h_u).mono fun e w2 h => h
    simp only [Act.put, List.setIfInBounds_toArray, List.set_cons_zero, List.set_cons_succ]
    first
      | (refine Way.no 4 (by rfl) (by kernel_rfl) (by rfl) ?_; simp only [Act.put, List.setIfInBounds_toArray, List.set_cons_zero, List.set_cons_succ])
      | (refine' Way.yes 4 (by rfl) (by kernel_rfl) (by rfl) (fun wS hS => ?_) ?_
         rotate_left
         · obtain ⟨h_o, h_r, h_u, h_n, h_x⟩ := (S4_0D.out _).1 hS
           have cn := h_n.cell 0
           have cx := h_x.cell 0
           simp at cn cx
           have c4 := h_o.cell 4
           simp only [List.getElem?_toArray, List.getElem?_cons_zero, List.getElem?_cons_succ] at c4
           go_simp
           first
             | exact ⟨rfl, Below.refl _ _⟩
         simp only [Act.put, List.setIfInBounds_toArray, List.set_cons_zero, List.set_cons_succ])
    first
      | (refine Way.no 5 (by rfl) (by kernel_rfl) (by rfl) ?_; simp only [Act.put, List.setIfInBounds_toArray, List.set_cons_zero, List.set_cons_succ])
      | (refine' Way.yes 5 (by rfl) (by kernel_rfl) (by rfl) (fun wS hS => ?_) ?_
         rotate_left
         · obtain ⟨h_o, h_r, h_u, h_n, h_x⟩ := (S4_0D.out _).1 hS
           have cn := h_n.cell 0
           have cx := h_x.cell 0
           simp at cn cx
           have c4 := h_o.cell 4
           simp only [List.getElem?_toArray, List.getElem?_cons_zero, List.getElem?_cons_succ] at c4
           go_simp
           first
             | exact ⟨rfl, Below.refl _ _⟩
         simp only [Act.put, List.setIfInBounds_toArray, List.set_cons_zero, List.set_cons_succ])
    first
      | (refine Way.no 6 (by rfl) (by kernel_rfl) (by rfl) ?_; simp only [Act.put, List.setIfInBounds_toArray, List.set_cons_zero, List.set_cons_succ])
      | (refine' Way.yes 6 (by rfl) (by kernel_rfl) (by rfl) (fun wS hS => ?_) ?_
         rotate_left
         · obtain ⟨h_o, h_r, h_u, h_n, h_x⟩ := (S4_0D.out _).1 hS
           have cn := h_n.cell 0
           have cx := h_x.cell 0
           simp at cn cx
           have c4 := h_o.cell 4
           simp only [List.getElem?_toArray, List.getElem?_cons_zero, List.getElem?_cons_succ] at c4
           go_simp
           first
             | exact ⟨rfl, Below.refl _ _⟩
         simp only [Act.put, List.setIfInBounds_toArray, List.set_cons_zero, List.set_cons_succ])
    refine' Way.yes (v := .bool z) 7 (by rfl) (by kernel_rfl) (by rfl) (fun wS hS => ?_) ?_
    · obtain ⟨h_o, h_r, h_u, h_n, h_x⟩ := (S4_0D.out _).1 hS
      go_simp
      exact (HAG.out _ h_u).mono fun e w2 h => h
    simp only [Act.put, List.setIfInBounds_toArray, List.set_cons_zero, List.set_cons_succ]
    first
      | (refine Way.no 8 (by rfl) (by kernel_rfl) (by rfl) ?_; simp only [Act.put, List.setIfInBounds_toArray, List.set_cons_zero, List.set_cons_succ])
      | (refine' Way.yes 8 (by rfl) (by kernel_rfl) (by rfl) (fun wS hS => ?_) ?_
         rotate_left
         · obtain ⟨h_o, h_r, h_u, h_n, h_x⟩ := (S4_0D.out _).1 hS
           have cn := h_n.cell 0
           have cx := h_x.cell 0
           simp at cn cx
           have c4 := h_o.cell 4
           simp only [List.getElem?_toArray, List.getElem?_cons_zero, List.getElem?_cons_succ] at c4
           go_simp
           first
             | exact ⟨rfl, Below.refl _ _⟩
         simp only [Act.put, List.setIfInBounds_toArray, List.set_cons_zero, List.set_cons_succ])
    first
      | (refine Way.no 9 (by rfl) (by kernel_rfl) (by rfl) ?_; simp only [Act.put, List.setIfInBounds_toArray, List.set_cons_zero, List.set_cons_succ])
      | (refine' Way.yes 9 (by rfl) (by kernel_rfl) (by rfl) (fun wS hS => ?_) ?_
         rotate_left
         · obtain ⟨h_o, h_r, h_u, h_n, h_x⟩ := (S4_0D.out _).1 hS
           have cn := h_n.cell 0
           have cx := h_x.cell 0
           simp at cn cx
           have c4 := h_o.cell 4
           simp only [List.getElem?_toArray, List.getElem?_cons_zero, List.getElem?_cons_succ] at c4
           go_simp
           first
             | exact ⟨rfl, Below.refl _ _⟩
         simp only [Act.put, List.setIfInBounds_toArray, List.set_cons_zero, List.set_cons_succ])
    refine Way.done (by kernel_rfl) (fun wE hS => ?_)
    obtain ⟨h_o, h_r, h_u, h_n, h_x⟩ := (S4_0D.out _).1 hS
    have H_o := Lib.hid h_o
    have H_r := Lib.hid h_r
    have H_u := Lib.hid h_u
    have H_n := Lib.hid h_n
    have H_x := Lib.hid h_x
    clear hS h_o h_r h_u h_n h_x
    go_wp2_with fail
    go_ret
    exact ⟨rfl, ⟨hi, xs, Nat.le_refl _, by omega, ⟨_, _, _, _, _, _, H_r.out⟩⟩, H_u.out.mono HBL.out⟩
  · have HCM := Lib.hid (fun W (hb : Below w.heap.size w W) => nword_nat _ x W (HN1.out W hb) (by have := HX.out; rw [HMM.out] at this; omega))
    have HAG := Lib.hid (fun W (hb : Below w.heap.size w W) => rword_nat _ x Y W (HR1.out W hb) (two_b4 HX.out HX.out HMM.out HM4.out HY.out).1 (by have := HY.out; omega))
    obtain ⟨z, tb, hz⟩ : ∃ (z : Nat) (tb : Bool), wordV x = .tuple #[wv z, .bool tb] := by unfold wordV; split; exact ⟨_, _, rfl⟩; exact ⟨_, _, rfl⟩
    rw [hz] at HCM HAG
    have tz : ((z : Int) == (z : Int)) = true := by simp
    have tt : (tb == tb) = true := by simp
    clear hz
    have fk := H_o.out.cell 0
    simp only [List.getElem?_toArray, List.getElem?_cons_zero, List.getElem?_cons_succ] at fk
    have fn := H_n.out.cell 0
    simp only [List.getElem?_toArray, List.getElem?_cons_zero, List.getElem?_cons_succ] at fn
    go_wp2_with fail
    refine (HCM.out _ H_u.out).mono ?_
    rintro e w1 ⟨rfl, hb⟩
    clear fk fn
    have K_o := Lib.hid (show Blk w1 w.heap.size 37 #[.int .i64 13, .int .i64 a, .int .i64 b, wv N, .int .i64 K, .string ⟨s.toArray⟩] from H_o.out.below hb H_o.out.lt)
    have K_r := Lib.hid (show RowS base hi w1 rb gp cp gd cd xs xs P D from H_r.out.below hb)
    have K_u := Lib.hid (show Below w.heap.size w w1 from keepb H_u.out hb)
    have K_n := Lib.hid (show Blk w1 g7 26 #[.slice A1 n1 c1] from H_n.out.below hb H_n.out.lt)
    have K_x := Lib.hid (show Blk w1 g8 31 #[.slice B1 m1 d1] from H_x.out.below hb H_x.out.lt)
    clear hb H_o H_r H_u H_n H_x
    have H_o := K_o
    have H_r := K_r
    have H_u := K_u
    have H_n := K_n
    have H_x := K_x
    clear K_o K_r K_u K_n K_x
    have fx := H_x.out.cell 0
    simp only [List.getElem?_toArray, List.getElem?_cons_zero, List.getElem?_cons_succ] at fx
    go_wp2_with fail
    refine (HAG.out _ H_u.out).mono ?_
    rintro e w2 ⟨rfl, hb⟩
    clear fx
    have K_o := Lib.hid (show Blk w2 w.heap.size 37 #[.int .i64 13, .int .i64 a, .int .i64 b, wv N, .int .i64 K, .string ⟨s.toArray⟩] from H_o.out.below hb H_o.out.lt)
    have K_r := Lib.hid (show RowS base hi w2 rb gp cp gd cd xs xs P D from H_r.out.below hb)
    have K_u := Lib.hid (show Below w.heap.size w w2 from keepb H_u.out hb)
    have K_n := Lib.hid (show Blk w2 g7 26 #[.slice A1 n1 c1] from H_n.out.below hb H_n.out.lt)
    have K_x := Lib.hid (show Blk w2 g8 31 #[.slice B1 m1 d1] from H_x.out.below hb H_x.out.lt)
    clear hb H_o H_r H_u H_n H_x
    have H_o := K_o
    have H_r := K_r
    have H_u := K_u
    have H_n := K_n
    have H_x := K_x
    clear K_o K_r K_u K_n K_x
    go_wp2_with fail
    go_ret
    exact ⟨rfl, ⟨hi, xs, Nat.le_refl _, by omega, ⟨_, _, _, _, _, _, H_r.out⟩⟩, H_u.out.mono HBL.out⟩
  · obtain ⟨k10, k11, k12, k13⟩ := hk
    have d10 : (kind == 10) = false := by rw [beq_eq_false_iff_ne]; exact k10
    have d11 : (kind == 11) = false := by rw [beq_eq_false_iff_ne]; exact k11
    have d12 : (kind == 12) = false := by rw [beq_eq_false_iff_ne]; exact k12
    have d13 : (kind == 13) = false := by rw [beq_eq_false_iff_ne]; exact k13
    clear k10 k11 k12 k13
    have HCM := Lib.hid (fun W (hb : Below w.heap.size w W) => text_nat _ x W (HN1.out W hb) (by have := HX.out; rw [HMM.out] at this; omega))
    have HAG := Lib.hid (fun W (hb : Below w.heap.size w W) => rtext_nat _ x Y W (HR1.out W hb) (two_b4 HX.out HX.out HMM.out HM4.out HY.out).1 (by have := HY.out; omega))
    obtain ⟨z, hz⟩ : ∃ z, dtext x = z := ⟨_, rfl⟩
    rw [hz] at HCM HAG
    have tz : (z == z) = true := by simp
    clear hz
    have fk := H_o.out.cell 0
    simp only [List.getElem?_toArray, List.getElem?_cons_zero, List.getElem?_cons_succ] at fk
    go_upto_region 14 with fail
    clear fk
    obtain ⟨S5_0, S5_0D⟩ : ∃ S : World → Prop, Go.RowKit.Hid (∀ w' : World, S w' ↔ ((Blk w' w.heap.size 37 #[.int .i64 kind, .int .i64 a, .int .i64 b, wv N, .int .i64 K, .string ⟨s.toArray⟩]) ∧ (RowS base hi w' rb gp cp gd cd xs xs P D) ∧ (Below w.heap.size w w') ∧ (Blk w' g7 26 #[.slice A1 n1 c1]) ∧ (Blk w' g8 31 #[.slice B1 m1 d1]))) := ⟨_, Lib.hid (fun _ => Iff.rfl)⟩
    refine wp_region_way (S := S5_0) (by kernel_rfl) (by kernel_rfl) (fun W W' h hb => by obtain ⟨h_o, h_r, h_u, h_n, h_x⟩ := (S5_0D.out _).1 h; exact (S5_0D.out _).2 ⟨h_o.below hb h_o.lt, h_r.below hb, keepb h_u hb, h_n.below hb h_n.lt, h_x.below hb h_x.lt⟩) ((S5_0D.out _).2 ⟨H_o.out.below (Below.refl v2.heap.size v2).drew H_o.out.lt, H_r.out.below (Below.refl v2.heap.size v2).drew, keepb H_u.out (Below.refl v2.heap.size v2).drew, H_n.out.below (Below.refl v2.heap.size v2).drew H_n.out.lt, H_x.out.below (Below.refl v2.heap.size v2).drew H_x.out.lt⟩) ?_
    first
      | (refine Way.no 0 (by rfl) (by kernel_rfl) (by rfl) ?_; simp only [Act.put, List.setIfInBounds_toArray, List.set_cons_zero, List.set_cons_succ])
      | (refine' Way.yes 0 (by rfl) (by kernel_rfl) (by rfl) (fun wS hS => ?_) ?_
         rotate_left
         · obtain ⟨h_o, h_r, h_u, h_n, h_x⟩ := (S5_0D.out _).1 hS
           have cn := h_n.cell 0
           have cx := h_x.cell 0
           simp at cn cx
           go_simp
           first
             | exact ⟨rfl, Below.refl _ _⟩
         simp only [Act.put, List.setIfInBounds_toArray, List.set_cons_zero, List.set_cons_succ])
    refine' Way.yes (v := .string ⟨z.toArray⟩) 1 (by rfl) (by kernel_rfl) (by rfl) (fun wS hS => ?_) ?_
    · obtain ⟨h_o, h_r, h_u, h_n, h_x⟩ := (S5_0D.out _).1 hS
      go_simp
      exact (HCM.out _ h_u).mono fun e w2 h => h
    simp only [Act.put, List.setIfInBounds_toArray, List.set_cons_zero, List.set_cons_succ]
    first
      | (refine Way.no 2 (by rfl) (by kernel_rfl) (by rfl) ?_; simp only [Act.put, List.setIfInBounds_toArray, List.set_cons_zero, List.set_cons_succ])
      | (refine' Way.yes 2 (by rfl) (by kernel_rfl) (by rfl) (fun wS hS => ?_) ?_
         rotate_left
         · obtain ⟨h_o, h_r, h_u, h_n, h_x⟩ := (S5_0D.out _).1 hS
           have cn := h_n.cell 0
           have cx := h_x.cell 0
           simp at cn cx
           go_simp
           first
             | exact ⟨rfl, Below.refl _ _⟩
         simp only [Act.put, List.setIfInBounds_toArray, List.set_cons_zero, List.set_cons_succ])
    refine' Way.yes (v := .string ⟨z.toArray⟩) 3 (by rfl) (by kernel_rfl) (by rfl) (fun wS hS => ?_) ?_
    · obtain ⟨h_o, h_r, h_u, h_n, h_x⟩ := (S5_0D.out _).1 hS
      go_simp
      exact (HAG.out _ h_u).mono fun e w2 h => h
    simp only [Act.put, List.setIfInBounds_toArray, List.set_cons_zero, List.set_cons_succ]
    first
      | (refine Way.no 4 (by rfl) (by kernel_rfl) (by rfl) ?_; simp only [Act.put, List.setIfInBounds_toArray, List.set_cons_zero, List.set_cons_succ])
      | (refine' Way.yes 4 (by rfl) (by kernel_rfl) (by rfl) (fun wS hS => ?_) ?_
         rotate_left
         · obtain ⟨h_o, h_r, h_u, h_n, h_x⟩ := (S5_0D.out _).1 hS
           have cn := h_n.cell 0
           have cx := h_x.cell 0
           simp at cn cx
           go_simp
           first
             | exact ⟨rfl, Below.refl _ _⟩
         simp only [Act.put, List.setIfInBounds_toArray, List.set_cons_zero, List.set_cons_succ])
    first
      | (refine Way.no 5 (by rfl) (by kernel_rfl) (by rfl) ?_; simp only [Act.put, List.setIfInBounds_toArray, List.set_cons_zero, List.set_cons_succ])
      | (refine' Way.yes 5 (by rfl) (by kernel_rfl) (by rfl) (fun wS hS => ?_) ?_
         rotate_left
         · obtain ⟨h_o, h_r, h_u, h_n, h_x⟩ := (S5_0D.out _).1 hS
           have cn := h_n.cell 0
           have cx := h_x.cell 0
           simp at cn cx
           go_simp
           first
             | exact ⟨rfl, Below.refl _ _⟩
         simp only [Act.put, List.setIfInBounds_toArray, List.set_cons_zero, List.set_cons_succ])
    refine Way.done (by kernel_rfl) (fun wE hS => ?_)
    obtain ⟨h_o, h_r, h_u, h_n, h_x⟩ := (S5_0D.out _).1 hS
    have H_o := Lib.hid h_o
    have H_r := Lib.hid h_r
    have H_u := Lib.hid h_u
    have H_n := Lib.hid h_n
    have H_x := Lib.hid h_x
    clear hS h_o h_r h_u h_n h_x
    go_wp2_with fail
    go_ret
    exact ⟨rfl, ⟨hi, xs, Nat.le_refl _, by omega, ⟨_, _, _, _, _, _, H_r.out⟩⟩, H_u.out.mono HBL.out⟩
end Go.Proofs.YtgihkmofpncobaaDoor
