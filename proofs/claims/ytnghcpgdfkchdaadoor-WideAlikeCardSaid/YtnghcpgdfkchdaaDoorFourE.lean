/- The reference's quotient of a number of 128 bits. -/
import Derived.Test.YtnghcpgdfkchdaaDoorFourD
namespace Go.Proofs.YtnghcpgdfkchdaaDoor
open Go.RowKit
attribute [local go_sem] CGives_value CGives_skip CGives_enter MGives_value MGives_skip MGives_enter
set_option linter.unusedSimpArgs false
set_option linter.unusedVariables false

/-- The five boxes. -/
structure DV (w0 : World) (g2 g4 g7 g8 g9 N d Q L : Nat) (W : World) : Prop where
  b2 : FB W g2 N
  b4 : Blk W g4 30 #[.int .u64 0, .int .u64 0, .int .u64 0, .int .u64 0]
  b7 : FB W g7 Q
  b8 : FB W g8 L
  b9 : FB W g9 d
  below : Below w0.heap.size w0 W
  h0 : w0.heap.size ≤ g2
  h2 : g2 < g4
  h4 : g4 < g7
  h7 : g7 < g8
  h8 : g8 < g9
section
variable {w0 W W' : World} {g2 g4 g7 g8 g9 N d Q L : Nat}
theorem DV.st (h : DV w0 g2 g4 g7 g8 g9 N d Q L W) (hb : Below W.heap.size W W') : DV w0 g2 g4 g7 g8 g9 N d Q L W' :=
  ⟨h.b2.st hb, h.b4.st hb, h.b7.st hb, h.b8.st hb, h.b9.st hb, keepb h.below hb, h.h0, h.h2, h.h4, h.h7, h.h8⟩
theorem DV.put7 (h : DV w0 g2 g4 g7 g8 g9 N d Q L W) (M : Nat) : DV w0 g2 g4 g7 g8 g9 N d M L (put4 W g7 M) := by
  have h0 := h.h0
  have h2 := h.h2
  have h4 := h.h4
  have h7 := h.h7
  have h8 := h.h8
  exact ⟨h.b2.far (by omega) M, ((((h.b4.far (p := ⟨g7, 0, none⟩) (by show g4 ≠ g7; omega) _).far (p := ⟨g7, 1, none⟩) (by show g4 ≠ g7; omega) _).far (p := ⟨g7, 2, none⟩) (by show g4 ≠ g7; omega) _).far (p := ⟨g7, 3, none⟩) (by show g4 ≠ g7; omega) _), h.b7.put M, h.b8.far (by omega) M, h.b9.far (by omega) M, below_put4 h.below (by omega) M, h0, h2, h4, h7, h8⟩
theorem DV.put8 (h : DV w0 g2 g4 g7 g8 g9 N d Q L W) (M : Nat) : DV w0 g2 g4 g7 g8 g9 N d Q M (put4 W g8 M) := by
  have h0 := h.h0
  have h2 := h.h2
  have h4 := h.h4
  have h7 := h.h7
  have h8 := h.h8
  exact ⟨h.b2.far (by omega) M, ((((h.b4.far (p := ⟨g8, 0, none⟩) (by show g4 ≠ g8; omega) _).far (p := ⟨g8, 1, none⟩) (by show g4 ≠ g8; omega) _).far (p := ⟨g8, 2, none⟩) (by show g4 ≠ g8; omega) _).far (p := ⟨g8, 3, none⟩) (by show g4 ≠ g8; omega) _), h.b7.far (by omega) M, h.b8.put M, h.b9.far (by omega) M, below_put4 h.below (by omega) M, h0, h2, h4, h7, h8⟩
end

theorem four_field (X : Nat) (w : World) : (Instr.field 30 (.agg #[wv (q0 X), wv (q1 X), wv (q2 X), wv (q3 X)]) 0).run Tryd.prog w = .ok (wv (q0 X)) w := by
  generalize q0 X = a
  generalize q1 X = b
  generalize q2 X = c
  generalize q3 X = d
  kernel_rfl

set_option maxRecDepth 100000 in
theorem rdiv_zero (N : Nat) (w : World) :
    Calls Tryd.prog 13 #[fv N, wv 0] w fun e w' => e = .returned (.tuple #[.agg #[.int .u64 0, .int .u64 0, .int .u64 0, .int .u64 0], .int .u64 0, .bool false]) ∧ Below w.heap.size w w' := by
  unfold fv
  generalize q0 N = x0 at *
  generalize q1 N = x1 at *
  generalize q2 N = x2 at *
  generalize q3 N = x3 at *
  go_enter Tryd.func13, Tryd.ntmps13
  go_wp2_with fail
  exact bodyPost_ret (v := .tuple #[.agg #[.int .u64 0, .int .u64 0, .int .u64 0, .int .u64 0], .int .u64 0, .bool false]) (by simp [results, Tryd.results13, go_sem]) rfl ⟨rfl, by go_grown⟩

set_option maxRecDepth 100000 in
set_option maxHeartbeats 4000000 in
theorem rdiv_any (N d : Nat) (hN : N < P128) (hd0 : 0 < d) (hd : d < W64) (w : World) :
    Calls Tryd.prog 13 #[fv N, wv d] w fun e w' => e = .returned (.tuple #[fv (N / d), wv (N % d), .bool true]) ∧ Below w.heap.size w w' := by
  have t0 : ((d : Int) == 0) = false := by simp; omega
  have HCUT := Lib.hid (fun W => cut_zero d hd W)
  unfold fv
  go_enter Tryd.func13, Tryd.ntmps13
  have HN := Lib.hid hN
  have HD0 := Lib.hid hd0
  have HD := Lib.hid hd
  clear hN hd0 hd
  go_wp2_with fail
  refine (HCUT.out _).mono ?_
  rintro e w1 ⟨rfl, hb⟩
  have G2 := (Blk.new w 30 #[wv (q0 N), wv (q1 N), wv (q2 N), wv (q3 N)]).alloc (.cells #[.int .u64 0, .int .u64 0, .int .u64 0, .int .u64 0] 30) |>.alloc (.cells #[.int .u64 0, .int .u64 0, .int .u64 0, .int .u64 0] 30) |>.alloc (.cells #[.int .u64 0, .int .u64 0, .int .u64 0, .int .u64 0] 30) |>.st hb
  have G4 := (Blk.new2 w 30 #[.int .u64 0, .int .u64 0, .int .u64 0, .int .u64 0] (.cells #[wv (q0 N), wv (q1 N), wv (q2 N), wv (q3 N)] 30)).alloc (.cells #[.int .u64 0, .int .u64 0, .int .u64 0, .int .u64 0] 30) |>.alloc (.cells #[.int .u64 0, .int .u64 0, .int .u64 0, .int .u64 0] 30) |>.st hb
  have G7 := (Blk.new2 (w.alloc (.cells #[wv (q0 N), wv (q1 N), wv (q2 N), wv (q3 N)] 30)) 30 #[.int .u64 0, .int .u64 0, .int .u64 0, .int .u64 0] (.cells #[.int .u64 0, .int .u64 0, .int .u64 0, .int .u64 0] 30)).alloc (.cells #[.int .u64 0, .int .u64 0, .int .u64 0, .int .u64 0] 30) |>.st hb
  have G8 := (Blk.new2 ((w.alloc (.cells #[wv (q0 N), wv (q1 N), wv (q2 N), wv (q3 N)] 30)).alloc (.cells #[.int .u64 0, .int .u64 0, .int .u64 0, .int .u64 0] 30)) 30 #[.int .u64 0, .int .u64 0, .int .u64 0, .int .u64 0] (.cells #[.int .u64 0, .int .u64 0, .int .u64 0, .int .u64 0] 30)).st hb
  rw [World.size_alloc] at G7
  rw [World.size_alloc, World.size_alloc] at G8
  have hB := (((((Below.refl _ w).alloc (Nat.le_refl _) (.cells #[wv (q0 N), wv (q1 N), wv (q2 N), wv (q3 N)] 30)).alloc (by simp) (.cells #[.int .u64 0, .int .u64 0, .int .u64 0, .int .u64 0] 30)).alloc (by simp; omega) (.cells #[.int .u64 0, .int .u64 0, .int .u64 0, .int .u64 0] 30)).alloc (by simp; omega) (.cells #[.int .u64 0, .int .u64 0, .int .u64 0, .int .u64 0] 30)).trans (hb.mono (by simp; omega))
  have HV := Lib.hid (show DV w w.heap.size (w.heap.size + 1) (w.heap.size + 1 + 1) (w.heap.size + 1 + 1 + 1) w1.heap.size N d 0 0 (w1.alloc (.cells #[wv (q0 d), wv (q1 d), wv (q2 d), wv (q3 d)] 30)) from
    ⟨G2.alloc _, G4.alloc _, G7.alloc _, G8.alloc _, Blk.new w1 _ _, hB.alloc hB.size _, Nat.le_refl _, by omega, by omega, by omega, G8.lt⟩)
  clear hb G2 G4 G7 G8 hB HCUT
  unfold fv
  go_wp2_with fail
  go_loopw [10] (fun i wr => ∃ j Q L : Nat, i = .int .i64 ((j : Int) - 1) ∧ j ≤ 128 ∧ DV w w.heap.size (w.heap.size + 1) (w.heap.size + 1 + 1) (w.heap.size + 1 + 1 + 1) w1.heap.size N d Q L wr ∧ N / 2 ^ j = d * Q + L ∧ L < d) (fun i _ => (intOf i + 1).toNat)
  case atStart => exact ⟨128, 0, 0, rfl, Nat.le_refl _, HV.out, by rw [Nat.div_eq_of_lt (show N < 2 ^ 128 from HN.out), Nat.mul_zero], HD0.out⟩
  case round =>
    obtain ⟨j, Q, L, rfl, hj, hv, hq, hl⟩ := hrel
    have H := Lib.hid hv
    clear hv HV
    cases j with
    | zero =>
      rw [Nat.pow_zero, Nat.div_one] at hq
      obtain ⟨hQ, hL⟩ : N / d = Q ∧ N % d = L := by
        rw [hq]
        exact ⟨by rw [Nat.mul_add_div HD0.out, Nat.div_eq_of_lt hl, Nat.add_zero], by rw [Nat.mul_add_mod, Nat.mod_eq_of_lt hl]⟩
      have HL := Lib.hid (rlo_any L)
      have hlo : pLo L = L := by unfold pLo; exact Nat.mod_eq_of_lt (Nat.lt_trans hl HD.out)
      rw [hlo] at HL
      unfold fv at HL
      have HQQ := Lib.hid hQ
      have HLL := Lib.hid hL
      rw [show (((0 : Nat) : Int) - 1) = -1 from rfl]
      clear hq hQ hL hl hj hlo
      go_wp2_with fail
      have SDL : w.heap.size ≤ w.heap.size := by first | exact Nat.le_refl _ | omega | (simp; done)
      obtain ⟨S, SD⟩ : ∃ S : World → Prop, Go.RowKit.Hid (∀ w' : World, S w' ↔ (Blk w' (w.heap.size + 1 + 1) 30 #[wv (q0 Q), wv (q1 Q), wv (q2 Q), wv (q3 Q)] ∧ Blk w' (w.heap.size + 1 + 1 + 1) 30 #[wv (q0 L), wv (q1 L), wv (q2 L), wv (q3 L)] ∧ (∃ u0 u1 u2 u3, Blk w' (w.heap.size + 1) 30 #[u0, u1, u2, u3]) ∧ Below w.heap.size w w')) := ⟨_, Lib.hid (fun _ => Iff.rfl)⟩
      refine wp_region_way (S := S) (by kernel_rfl) (by kernel_rfl) (fun W W' h hb => by obtain ⟨h0, h1, ⟨u2_0, u2_1, u2_2, u2_3, h2⟩, hB⟩ := (SD.out _).1 h; exact (SD.out _).2 ⟨h0.st hb, h1.st hb, ⟨u2_0, u2_1, u2_2, u2_3, h2.st hb⟩, hB.trans (hb.mono (Nat.le_trans SDL hB.size))⟩) ((SD.out _).2 (⟨H.out.b7, H.out.b8, ⟨_, _, _, _, H.out.b4⟩, H.out.below.drew⟩)) ?_
      first
        | (refine Way.no 0 (by rfl) (by kernel_rfl) (by rfl) ?_; simp only [Act.put, List.setIfInBounds_toArray, List.set_cons_zero, List.set_cons_succ])
        | (refine' Way.yes 0 (by rfl) (by kernel_rfl) (by rfl) (fun wS hS => ?_) ?_
           rotate_left
           · have hS' := (SD.out _).1 hS
             obtain ⟨hb0, hb1, ⟨u2_0, u2_1, u2_2, u2_3, hb2⟩, hB⟩ := hS'
             have c0_0 := hb0.cell 0
             have c0_1 := hb0.cell 1
             have c0_2 := hb0.cell 2
             have c0_3 := hb0.cell 3
             have c1_0 := hb1.cell 0
             have c1_1 := hb1.cell 1
             have c1_2 := hb1.cell 2
             have c1_3 := hb1.cell 3
             have c2_0 := hb2.cell 0
             have c2_1 := hb2.cell 1
             have c2_2 := hb2.cell 2
             have c2_3 := hb2.cell 3
             go_simp
             first
               | exact ⟨rfl, Below.refl _ _⟩
               | (go_at_call 53; exact HL.out _)
           simp only [Act.put, List.setIfInBounds_toArray, List.set_cons_zero, List.set_cons_succ])
      first
        | (refine Way.no 1 (by rfl) (by kernel_rfl) (by rfl) ?_; simp only [Act.put, List.setIfInBounds_toArray, List.set_cons_zero, List.set_cons_succ])
        | (refine' Way.yes 1 (by rfl) (by kernel_rfl) (by rfl) (fun wS hS => ?_) ?_
           rotate_left
           · have hS' := (SD.out _).1 hS
             obtain ⟨hb0, hb1, ⟨u2_0, u2_1, u2_2, u2_3, hb2⟩, hB⟩ := hS'
             have c0_0 := hb0.cell 0
             have c0_1 := hb0.cell 1
             have c0_2 := hb0.cell 2
             have c0_3 := hb0.cell 3
             have c1_0 := hb1.cell 0
             have c1_1 := hb1.cell 1
             have c1_2 := hb1.cell 2
             have c1_3 := hb1.cell 3
             have c2_0 := hb2.cell 0
             have c2_1 := hb2.cell 1
             have c2_2 := hb2.cell 2
             have c2_3 := hb2.cell 3
             go_simp
             first
               | exact ⟨rfl, Below.refl _ _⟩
               | (go_at_call 53; exact HL.out _)
           simp only [Act.put, List.setIfInBounds_toArray, List.set_cons_zero, List.set_cons_succ])
      first
        | (refine Way.no 2 (by rfl) (by kernel_rfl) (by rfl) ?_; simp only [Act.put, List.setIfInBounds_toArray, List.set_cons_zero, List.set_cons_succ])
        | (refine' Way.yes 2 (by rfl) (by kernel_rfl) (by rfl) (fun wS hS => ?_) ?_
           rotate_left
           · have hS' := (SD.out _).1 hS
             obtain ⟨hb0, hb1, ⟨u2_0, u2_1, u2_2, u2_3, hb2⟩, hB⟩ := hS'
             have c0_0 := hb0.cell 0
             have c0_1 := hb0.cell 1
             have c0_2 := hb0.cell 2
             have c0_3 := hb0.cell 3
             have c1_0 := hb1.cell 0
             have c1_1 := hb1.cell 1
             have c1_2 := hb1.cell 2
             have c1_3 := hb1.cell 3
             have c2_0 := hb2.cell 0
             have c2_1 := hb2.cell 1
             have c2_2 := hb2.cell 2
             have c2_3 := hb2.cell 3
             go_simp
             first
               | exact ⟨rfl, Below.refl _ _⟩
               | (go_at_call 53; exact HL.out _)
           simp only [Act.put, List.setIfInBounds_toArray, List.set_cons_zero, List.set_cons_succ])
      refine Way.move 3 (by rfl) (by kernel_rfl) (by rfl) (fun wS hS => ?_)
      have hS' := (SD.out _).1 hS
      obtain ⟨hb0, hb1, ⟨u2_0, u2_1, u2_2, u2_3, hb2⟩, hB⟩ := hS'
      have c0_0 := hb0.cell 0
      have c0_1 := hb0.cell 1
      have c0_2 := hb0.cell 2
      have c0_3 := hb0.cell 3
      have c1_0 := hb1.cell 0
      have c1_1 := hb1.cell 1
      have c1_2 := hb1.cell 2
      have c1_3 := hb1.cell 3
      have c2_0 := hb2.cell 0
      have c2_1 := hb2.cell 1
      have c2_2 := hb2.cell 2
      have c2_3 := hb2.cell 3
      have f2_0 := hb2.frozen 0
      have f2_1 := hb2.frozen 1
      have f2_2 := hb2.frozen 2
      have f2_3 := hb2.frozen 3
      go_simp
      obtain ⟨S_1, SD_1⟩ : ∃ S_1 : World → Prop, Go.RowKit.Hid (∀ x : World, S_1 x ↔ (Blk x (w.heap.size + 1 + 1) 30 #[wv (q0 Q), wv (q1 Q), wv (q2 Q), wv (q3 Q)] ∧ Blk x (w.heap.size + 1 + 1 + 1) 30 #[wv (q0 L), wv (q1 L), wv (q2 L), wv (q3 L)] ∧ Blk x (w.heap.size + 1) 30 #[wv (q0 Q), wv (q1 Q), wv (q2 Q), wv (q3 Q)] ∧ Below w.heap.size w x)) := ⟨_, Lib.hid (fun _ => Iff.rfl)⟩
      have hst : Stays S_1 := fun W W' h hb => by obtain ⟨h0, h1, h2, hB⟩ := (SD_1.out _).1 h; exact (SD_1.out _).2 ⟨h0.st hb, h1.st hb, h2.st hb, hB.trans (hb.mono (Nat.le_trans SDL hB.size))⟩
      have hle : ∀ x, S_1 x → S x := fun x h => by obtain ⟨h0, h1, h2, hB⟩ := (SD_1.out _).1 h; exact (SD.out _).2 ⟨h0, h1, ⟨_, _, _, _, h2⟩, hB⟩
      refine Moved.keep S_1 hst hle ((SD_1.out _).2 ⟨((((hb0.far (by first | (simp; done) | (simp; omega)) _).far (by first | (simp; done) | (simp; omega)) _).far (by first | (simp; done) | (simp; omega)) _).far (by first | (simp; done) | (simp; omega)) _), ((((hb1.far (by first | (simp; done) | (simp; omega)) _).far (by first | (simp; done) | (simp; omega)) _).far (by first | (simp; done) | (simp; omega)) _).far (by first | (simp; done) | (simp; omega)) _), ((((hb2.set1 0 _).set1 1 _).set1 2 _).set1 3 _), ((((hB.setCell (by first | (simp; done) | (simp; omega)) _).setCell (by first | (simp; done) | (simp; omega)) _).setCell (by first | (simp; done) | (simp; omega)) _).setCell (by first | (simp; done) | (simp; omega)) _)⟩) ?_
      try simp only [Act.put, List.setIfInBounds_toArray, List.set_cons_zero, List.set_cons_succ]
      first
        | (refine Way.no 4 (by rfl) (by kernel_rfl) (by rfl) ?_; simp only [Act.put, List.setIfInBounds_toArray, List.set_cons_zero, List.set_cons_succ])
        | (refine' Way.yes 4 (by rfl) (by kernel_rfl) (by rfl) (fun wS hS => ?_) ?_
           rotate_left
           · have hS' := (SD_1.out _).1 hS
             obtain ⟨hb0, hb1, hb2, hB⟩ := hS'
             have c0_0 := hb0.cell 0
             have c0_1 := hb0.cell 1
             have c0_2 := hb0.cell 2
             have c0_3 := hb0.cell 3
             have c1_0 := hb1.cell 0
             have c1_1 := hb1.cell 1
             have c1_2 := hb1.cell 2
             have c1_3 := hb1.cell 3
             have c2_0 := hb2.cell 0
             have c2_1 := hb2.cell 1
             have c2_2 := hb2.cell 2
             have c2_3 := hb2.cell 3
             go_simp
             first
               | exact ⟨rfl, Below.refl _ _⟩
           simp only [Act.put, List.setIfInBounds_toArray, List.set_cons_zero, List.set_cons_succ])
      first
        | (refine Way.no 5 (by rfl) (by kernel_rfl) (by rfl) ?_; simp only [Act.put, List.setIfInBounds_toArray, List.set_cons_zero, List.set_cons_succ])
        | (refine' Way.yes 5 (by rfl) (by kernel_rfl) (by rfl) (fun wS hS => ?_) ?_
           rotate_left
           · have hS' := (SD_1.out _).1 hS
             obtain ⟨hb0, hb1, hb2, hB⟩ := hS'
             have c0_0 := hb0.cell 0
             have c0_1 := hb0.cell 1
             have c0_2 := hb0.cell 2
             have c0_3 := hb0.cell 3
             have c1_0 := hb1.cell 0
             have c1_1 := hb1.cell 1
             have c1_2 := hb1.cell 2
             have c1_3 := hb1.cell 3
             have c2_0 := hb2.cell 0
             have c2_1 := hb2.cell 1
             have c2_2 := hb2.cell 2
             have c2_3 := hb2.cell 3
             go_simp
             first
               | exact ⟨rfl, Below.refl _ _⟩
           simp only [Act.put, List.setIfInBounds_toArray, List.set_cons_zero, List.set_cons_succ])
      refine Way.done (by kernel_rfl) (fun wE hS => ?_)
      have hS' := (SD_1.out _).1 hS
      obtain ⟨hb0, hb1, hb2, hB⟩ := hS'
      have c0_0 := hb0.cell 0
      have c0_1 := hb0.cell 1
      have c0_2 := hb0.cell 2
      have c0_3 := hb0.cell 3
      have c1_0 := hb1.cell 0
      have c1_1 := hb1.cell 1
      have c1_2 := hb1.cell 2
      have c1_3 := hb1.cell 3
      have c2_0 := hb2.cell 0
      have c2_1 := hb2.cell 1
      have c2_2 := hb2.cell 2
      have c2_3 := hb2.cell 3
      clear hS
      go_wp2_with fail
      exact bodyPost_ret (v := .tuple #[.agg #[wv (q0 Q), wv (q1 Q), wv (q2 Q), wv (q3 Q)], wv L, .bool true]) (by simp [results, Tryd.results13, go_sem, c2_0, c2_1, c2_2, c2_3]) rfl ⟨by rw [HQQ.out, HLL.out], hB⟩
    | succ i =>
      rw [show (((i + 1 : Nat) : Int) - 1) = (i : Int) by omega]
      have hs := div_step (y := d) (Q := Q) (L := L) (i := i) hq rfl
      have hp : N / 2 ^ i < P128 := Nat.lt_of_le_of_lt (Nat.div_le_self _ _) HN.out
      have hb2 : N / 2 ^ i % 2 < 2 := Nat.mod_lt _ (by omega)
      have hW : d < W64 := HD.out
      have hQ2 : 2 * Q < P128 := by
        have : 1 * (2 * Q) ≤ d * (2 * Q) := Nat.mul_le_mul_right _ HD0.out
        have h1 := hs.1
        omega
      have hPW : P128 = W64 * W64 := rfl
      have hL2 : 2 * L + 1 < P128 := by unfold P128 W64 at *; omega
      have HS := Lib.hid (fun W => rshr_any N (i : Int) HN.out (by omega) W)
      have hc : cutN (i : Int) = i := by unfold cutN; omega
      rw [hc] at HS
      have hX : N / 2 ^ i < P128 := hp
      have HA := Lib.hid (bit_and (N / 2 ^ i))
      have HFD := Lib.hid (fun W => four_field (N / 2 ^ i) W)
      have HX : N / 2 ^ i % 2 = 0 ∨ N / 2 ^ i % 2 = 1 := by omega
      have HCM : ∀ M : Nat, (M < d → decide ((0 : Int) ≤ cmpI M d) = false) ∧ (d ≤ M → decide ((0 : Int) ≤ cmpI M d) = true) := fun M => by
        unfold cmpI
        refine ⟨fun h => ?_, fun h => ?_⟩
        · rw [if_neg (by omega), if_pos h]; rfl
        · by_cases he : M = d
          · rw [if_pos he]; rfl
          · rw [if_neg he, if_neg (by omega)]; rfl
      have HQ1 : d ≤ 2 * L + N / 2 ^ i % 2 → 2 * Q + 1 < P128 := fun h => by
        have : 1 * (2 * Q + 1) ≤ d * (2 * Q + 1) := Nat.mul_le_mul_right _ HD0.out
        have h1 := hs.2
        omega
      have hiI : (i : Int) ≤ 127 := by omega
      have hi0 : (0 : Int) ≤ i := by omega
      have HREL := Lib.hid hs
      have HRL := Lib.hid hl
      have HP := Lib.hid hp
      generalize hXe : N / 2 ^ i = X at *
      have HXE := Lib.hid hXe
      clear hXe
      generalize hmm : X % 2 = m at *
      clear hmm hs hp hX hj hq
      have hi1 := hi0
      have T1 := Lib.hid (fun W => radd_twice L (by omega) W)
      have T2 := Lib.hid (fun W => radd_twice Q hQ2 W)
      have T3 := Lib.hid (fun W => radd_one (2 * L) hL2 W)
      have RC : ∀ M, M < P128 → Go.RowKit.Hid (∀ W, Calls Tryd.prog 33 #[.agg #[wv (q0 M), wv (q1 M), wv (q2 M), wv (q3 M)], .agg #[wv (q0 d), wv (q1 d), wv (q2 d), wv (q3 d)]] W fun e w' => e = .returned (.int .i64 (cmpI M d)) ∧ Below W.heap.size W w') := fun M hM => Lib.hid (fun W => rcmp_any M d hM (by unfold P128 W64 at *; omega) W)
      have C0 := RC (2 * L) (by omega)
      have C1 := RC (2 * L + 1) hL2
      have k0 := HCM (2 * L)
      have k1 := HCM (2 * L + 1)
      clear RC HCM hPW
      have HQ2 := Lib.hid hQ2
      have HL2 := Lib.hid hL2
      have HWW := Lib.hid hW
      clear hQ2 hL2 hW hb2 hl hc
      obtain ⟨j8, j9⟩ : (¬ w.heap.size + 1 + 1 + 1 = w1.heap.size) ∧ (¬ w.heap.size + 1 + 1 = w1.heap.size) := ⟨by have := H.out.h8; omega, by have := H.out.h8; omega⟩
      obtain ⟨c2_0, c2_1, c2_2, c2_3⟩ := H.out.b2.cells
      obtain ⟨c7_0, c7_1, c7_2, c7_3⟩ := H.out.b7.cells
      obtain ⟨c8_0, c8_1, c8_2, c8_3⟩ := H.out.b8.cells
      obtain ⟨c9_0, c9_1, c9_2, c9_3⟩ := H.out.b9.cells
      rcases HX with rfl | rfl
      · rcases Nat.lt_or_ge (2 * L) d with hge | hge
        · have t1 : (((0 : Nat) : Int) == 1) = false := rfl
          have t2 : decide ((0 : Int) ≤ cmpI (2 * L) d) = false := k0.1 hge
          have HGE := Lib.hid hge
          have HQ1h := Lib.hid HQ1
          clear hge HQ1 k0 k1
          generalize hCC : cmpI (2 * L) d = CC at *
          clear hCC
          have E1 := HA.out
          have E2 := HFD.out
          go_wp2_with fail
          refine (T1.out _).mono ?_
          rintro e v1 ⟨rfl, hb⟩
          have H1a := Lib.hid (H.out.st hb)
          clear hb
          clear c2_0 c2_1 c2_2 c2_3 c7_0 c7_1 c7_2 c7_3 c8_0 c8_1 c8_2 c8_3 c9_0 c9_1 c9_2 c9_3
          obtain ⟨c2_0, c2_1, c2_2, c2_3⟩ := H1a.out.b2.cells
          obtain ⟨c7_0, c7_1, c7_2, c7_3⟩ := H1a.out.b7.cells
          obtain ⟨c8_0, c8_1, c8_2, c8_3⟩ := H1a.out.b8.cells
          obtain ⟨c9_0, c9_1, c9_2, c9_3⟩ := H1a.out.b9.cells
          obtain ⟨f8_0, f8_1, f8_2, f8_3⟩ := H1a.out.b8.frozen
          unfold fv
          have H1 := Lib.hid (H1a.out.put8 (2 * L))
          go_wp2_with fail
          clear f8_0 f8_1 f8_2 f8_3
          clear c2_0 c2_1 c2_2 c2_3 c7_0 c7_1 c7_2 c7_3 c8_0 c8_1 c8_2 c8_3 c9_0 c9_1 c9_2 c9_3
          obtain ⟨c2_0, c2_1, c2_2, c2_3⟩ := H1.out.b2.cells
          obtain ⟨c7_0, c7_1, c7_2, c7_3⟩ := H1.out.b7.cells
          obtain ⟨c8_0, c8_1, c8_2, c8_3⟩ := H1.out.b8.cells
          obtain ⟨c9_0, c9_1, c9_2, c9_3⟩ := H1.out.b9.cells
          refine (T2.out _).mono ?_
          rintro e v2 ⟨rfl, hb⟩
          have H2a := Lib.hid (H1.out.st hb)
          clear hb
          clear c2_0 c2_1 c2_2 c2_3 c7_0 c7_1 c7_2 c7_3 c8_0 c8_1 c8_2 c8_3 c9_0 c9_1 c9_2 c9_3
          obtain ⟨c2_0, c2_1, c2_2, c2_3⟩ := H2a.out.b2.cells
          obtain ⟨c7_0, c7_1, c7_2, c7_3⟩ := H2a.out.b7.cells
          obtain ⟨c8_0, c8_1, c8_2, c8_3⟩ := H2a.out.b8.cells
          obtain ⟨c9_0, c9_1, c9_2, c9_3⟩ := H2a.out.b9.cells
          obtain ⟨f7_0, f7_1, f7_2, f7_3⟩ := H2a.out.b7.frozen
          unfold fv
          have H2 := Lib.hid (H2a.out.put7 (2 * Q))
          go_wp2_with fail
          clear f7_0 f7_1 f7_2 f7_3
          clear c2_0 c2_1 c2_2 c2_3 c7_0 c7_1 c7_2 c7_3 c8_0 c8_1 c8_2 c8_3 c9_0 c9_1 c9_2 c9_3
          obtain ⟨c2_0, c2_1, c2_2, c2_3⟩ := H2.out.b2.cells
          obtain ⟨c7_0, c7_1, c7_2, c7_3⟩ := H2.out.b7.cells
          obtain ⟨c8_0, c8_1, c8_2, c8_3⟩ := H2.out.b8.cells
          obtain ⟨c9_0, c9_1, c9_2, c9_3⟩ := H2.out.b9.cells
          refine (HS.out _).mono ?_
          rintro e v3 ⟨rfl, hb⟩
          have H3 := Lib.hid (H2.out.st hb)
          clear hb
          clear c2_0 c2_1 c2_2 c2_3 c7_0 c7_1 c7_2 c7_3 c8_0 c8_1 c8_2 c8_3 c9_0 c9_1 c9_2 c9_3
          obtain ⟨c2_0, c2_1, c2_2, c2_3⟩ := H3.out.b2.cells
          obtain ⟨c7_0, c7_1, c7_2, c7_3⟩ := H3.out.b7.cells
          obtain ⟨c8_0, c8_1, c8_2, c8_3⟩ := H3.out.b8.cells
          obtain ⟨c9_0, c9_1, c9_2, c9_3⟩ := H3.out.b9.cells
          unfold fv
          go_wp2_with fail
          refine (C0.out _).mono ?_
          rintro e v5 ⟨rfl, hb⟩
          have H5 := Lib.hid (H3.out.st hb)
          clear hb
          clear c2_0 c2_1 c2_2 c2_3 c7_0 c7_1 c7_2 c7_3 c8_0 c8_1 c8_2 c8_3 c9_0 c9_1 c9_2 c9_3
          obtain ⟨c2_0, c2_1, c2_2, c2_3⟩ := H5.out.b2.cells
          obtain ⟨c7_0, c7_1, c7_2, c7_3⟩ := H5.out.b7.cells
          obtain ⟨c8_0, c8_1, c8_2, c8_3⟩ := H5.out.b8.cells
          obtain ⟨c9_0, c9_1, c9_2, c9_3⟩ := H5.out.b9.cells
          go_wp2_with fail
          go_roundw
          case rel => exact ⟨i, 2 * Q, 2 * L, by simp, by omega, H5.out, by rw [HXE.out]; have h1 := HREL.out; have h2 := HGE.out; omega, by have h1 := HRL.out; have h2 := HGE.out; omega⟩
          case measure => first | (simp [intOf]; done) | (simp [intOf]; omega)
        · have t1 : (((0 : Nat) : Int) == 1) = false := rfl
          have t2 : decide ((0 : Int) ≤ cmpI (2 * L) d) = true := k0.2 hge
          have HGE := Lib.hid hge
          have HQ1h := Lib.hid HQ1
          clear hge HQ1 k0 k1
          generalize hCC : cmpI (2 * L) d = CC at *
          clear hCC
          have E1 := HA.out
          have E2 := HFD.out
          go_wp2_with fail
          refine (T1.out _).mono ?_
          rintro e v1 ⟨rfl, hb⟩
          have H1a := Lib.hid (H.out.st hb)
          clear hb
          clear c2_0 c2_1 c2_2 c2_3 c7_0 c7_1 c7_2 c7_3 c8_0 c8_1 c8_2 c8_3 c9_0 c9_1 c9_2 c9_3
          obtain ⟨c2_0, c2_1, c2_2, c2_3⟩ := H1a.out.b2.cells
          obtain ⟨c7_0, c7_1, c7_2, c7_3⟩ := H1a.out.b7.cells
          obtain ⟨c8_0, c8_1, c8_2, c8_3⟩ := H1a.out.b8.cells
          obtain ⟨c9_0, c9_1, c9_2, c9_3⟩ := H1a.out.b9.cells
          obtain ⟨f8_0, f8_1, f8_2, f8_3⟩ := H1a.out.b8.frozen
          unfold fv
          have H1 := Lib.hid (H1a.out.put8 (2 * L))
          go_wp2_with fail
          clear f8_0 f8_1 f8_2 f8_3
          clear c2_0 c2_1 c2_2 c2_3 c7_0 c7_1 c7_2 c7_3 c8_0 c8_1 c8_2 c8_3 c9_0 c9_1 c9_2 c9_3
          obtain ⟨c2_0, c2_1, c2_2, c2_3⟩ := H1.out.b2.cells
          obtain ⟨c7_0, c7_1, c7_2, c7_3⟩ := H1.out.b7.cells
          obtain ⟨c8_0, c8_1, c8_2, c8_3⟩ := H1.out.b8.cells
          obtain ⟨c9_0, c9_1, c9_2, c9_3⟩ := H1.out.b9.cells
          refine (T2.out _).mono ?_
          rintro e v2 ⟨rfl, hb⟩
          have H2a := Lib.hid (H1.out.st hb)
          clear hb
          clear c2_0 c2_1 c2_2 c2_3 c7_0 c7_1 c7_2 c7_3 c8_0 c8_1 c8_2 c8_3 c9_0 c9_1 c9_2 c9_3
          obtain ⟨c2_0, c2_1, c2_2, c2_3⟩ := H2a.out.b2.cells
          obtain ⟨c7_0, c7_1, c7_2, c7_3⟩ := H2a.out.b7.cells
          obtain ⟨c8_0, c8_1, c8_2, c8_3⟩ := H2a.out.b8.cells
          obtain ⟨c9_0, c9_1, c9_2, c9_3⟩ := H2a.out.b9.cells
          obtain ⟨f7_0, f7_1, f7_2, f7_3⟩ := H2a.out.b7.frozen
          unfold fv
          have H2 := Lib.hid (H2a.out.put7 (2 * Q))
          go_wp2_with fail
          clear f7_0 f7_1 f7_2 f7_3
          clear c2_0 c2_1 c2_2 c2_3 c7_0 c7_1 c7_2 c7_3 c8_0 c8_1 c8_2 c8_3 c9_0 c9_1 c9_2 c9_3
          obtain ⟨c2_0, c2_1, c2_2, c2_3⟩ := H2.out.b2.cells
          obtain ⟨c7_0, c7_1, c7_2, c7_3⟩ := H2.out.b7.cells
          obtain ⟨c8_0, c8_1, c8_2, c8_3⟩ := H2.out.b8.cells
          obtain ⟨c9_0, c9_1, c9_2, c9_3⟩ := H2.out.b9.cells
          refine (HS.out _).mono ?_
          rintro e v3 ⟨rfl, hb⟩
          have H3 := Lib.hid (H2.out.st hb)
          clear hb
          clear c2_0 c2_1 c2_2 c2_3 c7_0 c7_1 c7_2 c7_3 c8_0 c8_1 c8_2 c8_3 c9_0 c9_1 c9_2 c9_3
          obtain ⟨c2_0, c2_1, c2_2, c2_3⟩ := H3.out.b2.cells
          obtain ⟨c7_0, c7_1, c7_2, c7_3⟩ := H3.out.b7.cells
          obtain ⟨c8_0, c8_1, c8_2, c8_3⟩ := H3.out.b8.cells
          obtain ⟨c9_0, c9_1, c9_2, c9_3⟩ := H3.out.b9.cells
          unfold fv
          go_wp2_with fail
          refine (C0.out _).mono ?_
          rintro e v5 ⟨rfl, hb⟩
          have H5 := Lib.hid (H3.out.st hb)
          clear hb
          clear c2_0 c2_1 c2_2 c2_3 c7_0 c7_1 c7_2 c7_3 c8_0 c8_1 c8_2 c8_3 c9_0 c9_1 c9_2 c9_3
          obtain ⟨c2_0, c2_1, c2_2, c2_3⟩ := H5.out.b2.cells
          obtain ⟨c7_0, c7_1, c7_2, c7_3⟩ := H5.out.b7.cells
          obtain ⟨c8_0, c8_1, c8_2, c8_3⟩ := H5.out.b8.cells
          obtain ⟨c9_0, c9_1, c9_2, c9_3⟩ := H5.out.b9.cells
          go_wp2_with fail
          refine (rsub_le (2 * L) d (by have := HL2.out; omega) HGE.out _).mono ?_
          rintro e v6 ⟨rfl, hb⟩
          have H6a := Lib.hid (H5.out.st hb)
          clear hb
          clear c2_0 c2_1 c2_2 c2_3 c7_0 c7_1 c7_2 c7_3 c8_0 c8_1 c8_2 c8_3 c9_0 c9_1 c9_2 c9_3
          obtain ⟨c2_0, c2_1, c2_2, c2_3⟩ := H6a.out.b2.cells
          obtain ⟨c7_0, c7_1, c7_2, c7_3⟩ := H6a.out.b7.cells
          obtain ⟨c8_0, c8_1, c8_2, c8_3⟩ := H6a.out.b8.cells
          obtain ⟨c9_0, c9_1, c9_2, c9_3⟩ := H6a.out.b9.cells
          obtain ⟨f8_0, f8_1, f8_2, f8_3⟩ := H6a.out.b8.frozen
          unfold fv
          have H6 := Lib.hid (H6a.out.put8 (2 * L - d))
          go_wp2_with fail
          clear f8_0 f8_1 f8_2 f8_3
          clear c2_0 c2_1 c2_2 c2_3 c7_0 c7_1 c7_2 c7_3 c8_0 c8_1 c8_2 c8_3 c9_0 c9_1 c9_2 c9_3
          obtain ⟨c2_0, c2_1, c2_2, c2_3⟩ := H6.out.b2.cells
          obtain ⟨c7_0, c7_1, c7_2, c7_3⟩ := H6.out.b7.cells
          obtain ⟨c8_0, c8_1, c8_2, c8_3⟩ := H6.out.b8.cells
          obtain ⟨c9_0, c9_1, c9_2, c9_3⟩ := H6.out.b9.cells
          refine (radd_one (2 * Q) (HQ1h.out HGE.out) _).mono ?_
          rintro e v7 ⟨rfl, hb⟩
          have H7a := Lib.hid (H6.out.st hb)
          clear hb
          clear c2_0 c2_1 c2_2 c2_3 c7_0 c7_1 c7_2 c7_3 c8_0 c8_1 c8_2 c8_3 c9_0 c9_1 c9_2 c9_3
          obtain ⟨c2_0, c2_1, c2_2, c2_3⟩ := H7a.out.b2.cells
          obtain ⟨c7_0, c7_1, c7_2, c7_3⟩ := H7a.out.b7.cells
          obtain ⟨c8_0, c8_1, c8_2, c8_3⟩ := H7a.out.b8.cells
          obtain ⟨c9_0, c9_1, c9_2, c9_3⟩ := H7a.out.b9.cells
          obtain ⟨f7_0, f7_1, f7_2, f7_3⟩ := H7a.out.b7.frozen
          unfold fv
          have H7 := Lib.hid (H7a.out.put7 (2 * Q + 1))
          go_wp2_with fail
          clear f7_0 f7_1 f7_2 f7_3
          clear c2_0 c2_1 c2_2 c2_3 c7_0 c7_1 c7_2 c7_3 c8_0 c8_1 c8_2 c8_3 c9_0 c9_1 c9_2 c9_3
          obtain ⟨c2_0, c2_1, c2_2, c2_3⟩ := H7.out.b2.cells
          obtain ⟨c7_0, c7_1, c7_2, c7_3⟩ := H7.out.b7.cells
          obtain ⟨c8_0, c8_1, c8_2, c8_3⟩ := H7.out.b8.cells
          obtain ⟨c9_0, c9_1, c9_2, c9_3⟩ := H7.out.b9.cells
          go_roundw
          case rel => exact ⟨i, 2 * Q + 1, 2 * L - d, by simp, by omega, H7.out, by rw [HXE.out]; have h1 := HREL.out; have h2 := HGE.out; omega, by have h1 := HRL.out; have h2 := HGE.out; omega⟩
          case measure => first | (simp [intOf]; done) | (simp [intOf]; omega)
      · rcases Nat.lt_or_ge (2 * L + 1) d with hge | hge
        · have t1 : (((1 : Nat) : Int) == 1) = true := rfl
          have t2 : decide ((0 : Int) ≤ cmpI (2 * L + 1) d) = false := k1.1 hge
          have HGE := Lib.hid hge
          have HQ1h := Lib.hid HQ1
          clear hge HQ1 k0 k1
          generalize hCC : cmpI (2 * L + 1) d = CC at *
          clear hCC
          have E1 := HA.out
          have E2 := HFD.out
          go_wp2_with fail
          refine (T1.out _).mono ?_
          rintro e v1 ⟨rfl, hb⟩
          have H1a := Lib.hid (H.out.st hb)
          clear hb
          clear c2_0 c2_1 c2_2 c2_3 c7_0 c7_1 c7_2 c7_3 c8_0 c8_1 c8_2 c8_3 c9_0 c9_1 c9_2 c9_3
          obtain ⟨c2_0, c2_1, c2_2, c2_3⟩ := H1a.out.b2.cells
          obtain ⟨c7_0, c7_1, c7_2, c7_3⟩ := H1a.out.b7.cells
          obtain ⟨c8_0, c8_1, c8_2, c8_3⟩ := H1a.out.b8.cells
          obtain ⟨c9_0, c9_1, c9_2, c9_3⟩ := H1a.out.b9.cells
          obtain ⟨f8_0, f8_1, f8_2, f8_3⟩ := H1a.out.b8.frozen
          unfold fv
          have H1 := Lib.hid (H1a.out.put8 (2 * L))
          go_wp2_with fail
          clear f8_0 f8_1 f8_2 f8_3
          clear c2_0 c2_1 c2_2 c2_3 c7_0 c7_1 c7_2 c7_3 c8_0 c8_1 c8_2 c8_3 c9_0 c9_1 c9_2 c9_3
          obtain ⟨c2_0, c2_1, c2_2, c2_3⟩ := H1.out.b2.cells
          obtain ⟨c7_0, c7_1, c7_2, c7_3⟩ := H1.out.b7.cells
          obtain ⟨c8_0, c8_1, c8_2, c8_3⟩ := H1.out.b8.cells
          obtain ⟨c9_0, c9_1, c9_2, c9_3⟩ := H1.out.b9.cells
          refine (T2.out _).mono ?_
          rintro e v2 ⟨rfl, hb⟩
          have H2a := Lib.hid (H1.out.st hb)
          clear hb
          clear c2_0 c2_1 c2_2 c2_3 c7_0 c7_1 c7_2 c7_3 c8_0 c8_1 c8_2 c8_3 c9_0 c9_1 c9_2 c9_3
          obtain ⟨c2_0, c2_1, c2_2, c2_3⟩ := H2a.out.b2.cells
          obtain ⟨c7_0, c7_1, c7_2, c7_3⟩ := H2a.out.b7.cells
          obtain ⟨c8_0, c8_1, c8_2, c8_3⟩ := H2a.out.b8.cells
          obtain ⟨c9_0, c9_1, c9_2, c9_3⟩ := H2a.out.b9.cells
          obtain ⟨f7_0, f7_1, f7_2, f7_3⟩ := H2a.out.b7.frozen
          unfold fv
          have H2 := Lib.hid (H2a.out.put7 (2 * Q))
          go_wp2_with fail
          clear f7_0 f7_1 f7_2 f7_3
          clear c2_0 c2_1 c2_2 c2_3 c7_0 c7_1 c7_2 c7_3 c8_0 c8_1 c8_2 c8_3 c9_0 c9_1 c9_2 c9_3
          obtain ⟨c2_0, c2_1, c2_2, c2_3⟩ := H2.out.b2.cells
          obtain ⟨c7_0, c7_1, c7_2, c7_3⟩ := H2.out.b7.cells
          obtain ⟨c8_0, c8_1, c8_2, c8_3⟩ := H2.out.b8.cells
          obtain ⟨c9_0, c9_1, c9_2, c9_3⟩ := H2.out.b9.cells
          refine (HS.out _).mono ?_
          rintro e v3 ⟨rfl, hb⟩
          have H3 := Lib.hid (H2.out.st hb)
          clear hb
          clear c2_0 c2_1 c2_2 c2_3 c7_0 c7_1 c7_2 c7_3 c8_0 c8_1 c8_2 c8_3 c9_0 c9_1 c9_2 c9_3
          obtain ⟨c2_0, c2_1, c2_2, c2_3⟩ := H3.out.b2.cells
          obtain ⟨c7_0, c7_1, c7_2, c7_3⟩ := H3.out.b7.cells
          obtain ⟨c8_0, c8_1, c8_2, c8_3⟩ := H3.out.b8.cells
          obtain ⟨c9_0, c9_1, c9_2, c9_3⟩ := H3.out.b9.cells
          unfold fv
          go_wp2_with fail
          refine (T3.out _).mono ?_
          rintro e v4 ⟨rfl, hb⟩
          have H4a := Lib.hid (H3.out.st hb)
          clear hb
          clear c2_0 c2_1 c2_2 c2_3 c7_0 c7_1 c7_2 c7_3 c8_0 c8_1 c8_2 c8_3 c9_0 c9_1 c9_2 c9_3
          obtain ⟨c2_0, c2_1, c2_2, c2_3⟩ := H4a.out.b2.cells
          obtain ⟨c7_0, c7_1, c7_2, c7_3⟩ := H4a.out.b7.cells
          obtain ⟨c8_0, c8_1, c8_2, c8_3⟩ := H4a.out.b8.cells
          obtain ⟨c9_0, c9_1, c9_2, c9_3⟩ := H4a.out.b9.cells
          obtain ⟨f8_0, f8_1, f8_2, f8_3⟩ := H4a.out.b8.frozen
          unfold fv
          have H4 := Lib.hid (H4a.out.put8 (2 * L + 1))
          go_wp2_with fail
          clear f8_0 f8_1 f8_2 f8_3
          clear c2_0 c2_1 c2_2 c2_3 c7_0 c7_1 c7_2 c7_3 c8_0 c8_1 c8_2 c8_3 c9_0 c9_1 c9_2 c9_3
          obtain ⟨c2_0, c2_1, c2_2, c2_3⟩ := H4.out.b2.cells
          obtain ⟨c7_0, c7_1, c7_2, c7_3⟩ := H4.out.b7.cells
          obtain ⟨c8_0, c8_1, c8_2, c8_3⟩ := H4.out.b8.cells
          obtain ⟨c9_0, c9_1, c9_2, c9_3⟩ := H4.out.b9.cells
          refine (C1.out _).mono ?_
          rintro e v5 ⟨rfl, hb⟩
          have H5 := Lib.hid (H4.out.st hb)
          clear hb
          clear c2_0 c2_1 c2_2 c2_3 c7_0 c7_1 c7_2 c7_3 c8_0 c8_1 c8_2 c8_3 c9_0 c9_1 c9_2 c9_3
          obtain ⟨c2_0, c2_1, c2_2, c2_3⟩ := H5.out.b2.cells
          obtain ⟨c7_0, c7_1, c7_2, c7_3⟩ := H5.out.b7.cells
          obtain ⟨c8_0, c8_1, c8_2, c8_3⟩ := H5.out.b8.cells
          obtain ⟨c9_0, c9_1, c9_2, c9_3⟩ := H5.out.b9.cells
          go_wp2_with fail
          go_roundw
          case rel => exact ⟨i, 2 * Q, 2 * L + 1, by simp, by omega, H5.out, by rw [HXE.out]; have h1 := HREL.out; have h2 := HGE.out; omega, by have h1 := HRL.out; have h2 := HGE.out; omega⟩
          case measure => first | (simp [intOf]; done) | (simp [intOf]; omega)
        · have t1 : (((1 : Nat) : Int) == 1) = true := rfl
          have t2 : decide ((0 : Int) ≤ cmpI (2 * L + 1) d) = true := k1.2 hge
          have HGE := Lib.hid hge
          have HQ1h := Lib.hid HQ1
          clear hge HQ1 k0 k1
          generalize hCC : cmpI (2 * L + 1) d = CC at *
          clear hCC
          have E1 := HA.out
          have E2 := HFD.out
          go_wp2_with fail
          refine (T1.out _).mono ?_
          rintro e v1 ⟨rfl, hb⟩
          have H1a := Lib.hid (H.out.st hb)
          clear hb
          clear c2_0 c2_1 c2_2 c2_3 c7_0 c7_1 c7_2 c7_3 c8_0 c8_1 c8_2 c8_3 c9_0 c9_1 c9_2 c9_3
          obtain ⟨c2_0, c2_1, c2_2, c2_3⟩ := H1a.out.b2.cells
          obtain ⟨c7_0, c7_1, c7_2, c7_3⟩ := H1a.out.b7.cells
          obtain ⟨c8_0, c8_1, c8_2, c8_3⟩ := H1a.out.b8.cells
          obtain ⟨c9_0, c9_1, c9_2, c9_3⟩ := H1a.out.b9.cells
          obtain ⟨f8_0, f8_1, f8_2, f8_3⟩ := H1a.out.b8.frozen
          unfold fv
          have H1 := Lib.hid (H1a.out.put8 (2 * L))
          go_wp2_with fail
          clear f8_0 f8_1 f8_2 f8_3
          clear c2_0 c2_1 c2_2 c2_3 c7_0 c7_1 c7_2 c7_3 c8_0 c8_1 c8_2 c8_3 c9_0 c9_1 c9_2 c9_3
          obtain ⟨c2_0, c2_1, c2_2, c2_3⟩ := H1.out.b2.cells
          obtain ⟨c7_0, c7_1, c7_2, c7_3⟩ := H1.out.b7.cells
          obtain ⟨c8_0, c8_1, c8_2, c8_3⟩ := H1.out.b8.cells
          obtain ⟨c9_0, c9_1, c9_2, c9_3⟩ := H1.out.b9.cells
          refine (T2.out _).mono ?_
          rintro e v2 ⟨rfl, hb⟩
          have H2a := Lib.hid (H1.out.st hb)
          clear hb
          clear c2_0 c2_1 c2_2 c2_3 c7_0 c7_1 c7_2 c7_3 c8_0 c8_1 c8_2 c8_3 c9_0 c9_1 c9_2 c9_3
          obtain ⟨c2_0, c2_1, c2_2, c2_3⟩ := H2a.out.b2.cells
          obtain ⟨c7_0, c7_1, c7_2, c7_3⟩ := H2a.out.b7.cells
          obtain ⟨c8_0, c8_1, c8_2, c8_3⟩ := H2a.out.b8.cells
          obtain ⟨c9_0, c9_1, c9_2, c9_3⟩ := H2a.out.b9.cells
          obtain ⟨f7_0, f7_1, f7_2, f7_3⟩ := H2a.out.b7.frozen
          unfold fv
          have H2 := Lib.hid (H2a.out.put7 (2 * Q))
          go_wp2_with fail
          clear f7_0 f7_1 f7_2 f7_3
          clear c2_0 c2_1 c2_2 c2_3 c7_0 c7_1 c7_2 c7_3 c8_0 c8_1 c8_2 c8_3 c9_0 c9_1 c9_2 c9_3
          obtain ⟨c2_0, c2_1, c2_2, c2_3⟩ := H2.out.b2.cells
          obtain ⟨c7_0, c7_1, c7_2, c7_3⟩ := H2.out.b7.cells
          obtain ⟨c8_0, c8_1, c8_2, c8_3⟩ := H2.out.b8.cells
          obtain ⟨c9_0, c9_1, c9_2, c9_3⟩ := H2.out.b9.cells
          refine (HS.out _).mono ?_
          rintro e v3 ⟨rfl, hb⟩
          have H3 := Lib.hid (H2.out.st hb)
          clear hb
          clear c2_0 c2_1 c2_2 c2_3 c7_0 c7_1 c7_2 c7_3 c8_0 c8_1 c8_2 c8_3 c9_0 c9_1 c9_2 c9_3
          obtain ⟨c2_0, c2_1, c2_2, c2_3⟩ := H3.out.b2.cells
          obtain ⟨c7_0, c7_1, c7_2, c7_3⟩ := H3.out.b7.cells
          obtain ⟨c8_0, c8_1, c8_2, c8_3⟩ := H3.out.b8.cells
          obtain ⟨c9_0, c9_1, c9_2, c9_3⟩ := H3.out.b9.cells
          unfold fv
          go_wp2_with fail
          refine (T3.out _).mono ?_
          rintro e v4 ⟨rfl, hb⟩
          have H4a := Lib.hid (H3.out.st hb)
          clear hb
          clear c2_0 c2_1 c2_2 c2_3 c7_0 c7_1 c7_2 c7_3 c8_0 c8_1 c8_2 c8_3 c9_0 c9_1 c9_2 c9_3
          obtain ⟨c2_0, c2_1, c2_2, c2_3⟩ := H4a.out.b2.cells
          obtain ⟨c7_0, c7_1, c7_2, c7_3⟩ := H4a.out.b7.cells
          obtain ⟨c8_0, c8_1, c8_2, c8_3⟩ := H4a.out.b8.cells
          obtain ⟨c9_0, c9_1, c9_2, c9_3⟩ := H4a.out.b9.cells
          obtain ⟨f8_0, f8_1, f8_2, f8_3⟩ := H4a.out.b8.frozen
          unfold fv
          have H4 := Lib.hid (H4a.out.put8 (2 * L + 1))
          go_wp2_with fail
          clear f8_0 f8_1 f8_2 f8_3
          clear c2_0 c2_1 c2_2 c2_3 c7_0 c7_1 c7_2 c7_3 c8_0 c8_1 c8_2 c8_3 c9_0 c9_1 c9_2 c9_3
          obtain ⟨c2_0, c2_1, c2_2, c2_3⟩ := H4.out.b2.cells
          obtain ⟨c7_0, c7_1, c7_2, c7_3⟩ := H4.out.b7.cells
          obtain ⟨c8_0, c8_1, c8_2, c8_3⟩ := H4.out.b8.cells
          obtain ⟨c9_0, c9_1, c9_2, c9_3⟩ := H4.out.b9.cells
          refine (C1.out _).mono ?_
          rintro e v5 ⟨rfl, hb⟩
          have H5 := Lib.hid (H4.out.st hb)
          clear hb
          clear c2_0 c2_1 c2_2 c2_3 c7_0 c7_1 c7_2 c7_3 c8_0 c8_1 c8_2 c8_3 c9_0 c9_1 c9_2 c9_3
          obtain ⟨c2_0, c2_1, c2_2, c2_3⟩ := H5.out.b2.cells
          obtain ⟨c7_0, c7_1, c7_2, c7_3⟩ := H5.out.b7.cells
          obtain ⟨c8_0, c8_1, c8_2, c8_3⟩ := H5.out.b8.cells
          obtain ⟨c9_0, c9_1, c9_2, c9_3⟩ := H5.out.b9.cells
          go_wp2_with fail
          refine (rsub_le (2 * L + 1) d (by have := HL2.out; omega) HGE.out _).mono ?_
          rintro e v6 ⟨rfl, hb⟩
          have H6a := Lib.hid (H5.out.st hb)
          clear hb
          clear c2_0 c2_1 c2_2 c2_3 c7_0 c7_1 c7_2 c7_3 c8_0 c8_1 c8_2 c8_3 c9_0 c9_1 c9_2 c9_3
          obtain ⟨c2_0, c2_1, c2_2, c2_3⟩ := H6a.out.b2.cells
          obtain ⟨c7_0, c7_1, c7_2, c7_3⟩ := H6a.out.b7.cells
          obtain ⟨c8_0, c8_1, c8_2, c8_3⟩ := H6a.out.b8.cells
          obtain ⟨c9_0, c9_1, c9_2, c9_3⟩ := H6a.out.b9.cells
          obtain ⟨f8_0, f8_1, f8_2, f8_3⟩ := H6a.out.b8.frozen
          unfold fv
          have H6 := Lib.hid (H6a.out.put8 (2 * L + 1 - d))
          go_wp2_with fail
          clear f8_0 f8_1 f8_2 f8_3
          clear c2_0 c2_1 c2_2 c2_3 c7_0 c7_1 c7_2 c7_3 c8_0 c8_1 c8_2 c8_3 c9_0 c9_1 c9_2 c9_3
          obtain ⟨c2_0, c2_1, c2_2, c2_3⟩ := H6.out.b2.cells
          obtain ⟨c7_0, c7_1, c7_2, c7_3⟩ := H6.out.b7.cells
          obtain ⟨c8_0, c8_1, c8_2, c8_3⟩ := H6.out.b8.cells
          obtain ⟨c9_0, c9_1, c9_2, c9_3⟩ := H6.out.b9.cells
          refine (radd_one (2 * Q) (HQ1h.out HGE.out) _).mono ?_
          rintro e v7 ⟨rfl, hb⟩
          have H7a := Lib.hid (H6.out.st hb)
          clear hb
          clear c2_0 c2_1 c2_2 c2_3 c7_0 c7_1 c7_2 c7_3 c8_0 c8_1 c8_2 c8_3 c9_0 c9_1 c9_2 c9_3
          obtain ⟨c2_0, c2_1, c2_2, c2_3⟩ := H7a.out.b2.cells
          obtain ⟨c7_0, c7_1, c7_2, c7_3⟩ := H7a.out.b7.cells
          obtain ⟨c8_0, c8_1, c8_2, c8_3⟩ := H7a.out.b8.cells
          obtain ⟨c9_0, c9_1, c9_2, c9_3⟩ := H7a.out.b9.cells
          obtain ⟨f7_0, f7_1, f7_2, f7_3⟩ := H7a.out.b7.frozen
          unfold fv
          have H7 := Lib.hid (H7a.out.put7 (2 * Q + 1))
          go_wp2_with fail
          clear f7_0 f7_1 f7_2 f7_3
          clear c2_0 c2_1 c2_2 c2_3 c7_0 c7_1 c7_2 c7_3 c8_0 c8_1 c8_2 c8_3 c9_0 c9_1 c9_2 c9_3
          obtain ⟨c2_0, c2_1, c2_2, c2_3⟩ := H7.out.b2.cells
          obtain ⟨c7_0, c7_1, c7_2, c7_3⟩ := H7.out.b7.cells
          obtain ⟨c8_0, c8_1, c8_2, c8_3⟩ := H7.out.b8.cells
          obtain ⟨c9_0, c9_1, c9_2, c9_3⟩ := H7.out.b9.cells
          go_roundw
          case rel => exact ⟨i, 2 * Q + 1, 2 * L + 1 - d, by simp, by omega, H7.out, by rw [HXE.out]; have h1 := HREL.out; have h2 := HGE.out; omega, by have h1 := HRL.out; have h2 := HGE.out; omega⟩
          case measure => first | (simp [intOf]; done) | (simp [intOf]; omega)

end Go.Proofs.YtnghcpgdfkchdaaDoor
