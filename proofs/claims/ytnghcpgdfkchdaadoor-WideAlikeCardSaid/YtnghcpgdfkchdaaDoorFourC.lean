/- Numbers of 128 bits as four parts: difference, shifts, length. -/
import Derived.Test.YtnghcpgdfkchdaaDoorFourB
import Derived.Deep.LoopGhost
namespace Go.Proofs.YtnghcpgdfkchdaaDoor
open Go.RowKit
attribute [local go_sem] CGives_value CGives_skip CGives_enter MGives_value MGives_skip MGives_enter
set_option linter.unusedSimpArgs false
set_option linter.unusedVariables false

/-- A block that holds a number by its four parts. -/
def FB (w : World) (g N : Nat) : Prop := Blk w g 30 #[wv (q0 N), wv (q1 N), wv (q2 N), wv (q3 N)]
section
variable {w w' : World} {g N M : Nat}
theorem FB.st (h : FB w g N) (hb : Below w.heap.size w w') : FB w' g N := Blk.st h hb
theorem FB.lt (h : FB w g N) : g < w.heap.size := Blk.lt h
theorem FB.cells (h : FB w g N) : w.cell? ⟨g, 0, none⟩ = some (wv (q0 N)) ∧ w.cell? ⟨g, 1, none⟩ = some (wv (q1 N)) ∧ w.cell? ⟨g, 2, none⟩ = some (wv (q2 N)) ∧ w.cell? ⟨g, 3, none⟩ = some (wv (q3 N)) := ⟨Blk.cell h 0, Blk.cell h 1, Blk.cell h 2, Blk.cell h 3⟩
theorem FB.cells0 (h : FB w g N) : (∃ u, w.cell? ⟨g, 0, none⟩ = some u) ∧ (∃ u, w.cell? ⟨g, 1, none⟩ = some u) := ⟨⟨_, Blk.cell h 0⟩, ⟨_, Blk.cell h 1⟩⟩
theorem FB.frozen (h : FB w g N) : w.frozen? ⟨g, 0, none⟩ = false ∧ w.frozen? ⟨g, 1, none⟩ = false ∧ w.frozen? ⟨g, 2, none⟩ = false ∧ w.frozen? ⟨g, 3, none⟩ = false := ⟨Blk.frozen h 0, Blk.frozen h 1, Blk.frozen h 2, Blk.frozen h 3⟩
/-- A number is put into such a block. -/
abbrev put4 (w : World) (g M : Nat) : World := (((w.setCell ⟨g, 0, none⟩ (wv (q0 M))).setCell ⟨g, 1, none⟩ (wv (q1 M))).setCell ⟨g, 2, none⟩ (wv (q2 M))).setCell ⟨g, 3, none⟩ (wv (q3 M))
theorem FB.put (h : FB w g N) (M : Nat) : FB (put4 w g M) g M := ((((Blk.set1 h 0 _).set1 1 _).set1 2 _).set1 3 _ :)
theorem FB.far {k : Nat} (h : FB w g N) (hk : g ≠ k) (M : Nat) : FB (put4 w k M) g N := ((((Blk.far h (p := ⟨k, 0, none⟩) hk _).far (p := ⟨k, 1, none⟩) hk _).far (p := ⟨k, 2, none⟩) hk _).far (p := ⟨k, 3, none⟩) hk _ :)
theorem below_put4 {B : Nat} {a : World} (h : Below B a w) {k : Nat} (hk : B ≤ k) (M : Nat) : Below B a (put4 w k M) :=
  (((h.setCell (p := ⟨k, 0, none⟩) hk _).setCell (p := ⟨k, 1, none⟩) hk _).setCell (p := ⟨k, 2, none⟩) hk _).setCell (p := ⟨k, 3, none⟩) hk _
theorem put4_size (k M : Nat) : (put4 w k M).heap.size = w.heap.size := by simp [put4, World.setCell]
end

theorem four_not (y : Nat) (hy : y < 4294967296) : bits .xor .u64 (y : Int) 4294967295 = ((4294967295 - y : Nat) : Int) := by
  have h1 : y ^^^ 4294967295 = 4294967295 - y := by
    apply Nat.eq_of_testBit_eq
    intro i
    rw [Nat.testBit_xor, show (4294967295 : Nat) = 2 ^ 32 - 1 from rfl, Nat.testBit_two_pow_sub_one, show 2 ^ 32 - 1 - y = 2 ^ 32 - (y + 1) by omega, Nat.testBit_two_pow_sub_succ hy]
    by_cases hi : i < 32
    · simp [hi]
    · have : y.testBit i = false := Nat.testBit_lt_two_pow (Nat.lt_of_lt_of_le hy (show 2 ^ 32 ≤ 2 ^ i from Nat.pow_le_pow_right (by decide) (by omega)))
      simp [hi, this]
  show IntKind.u64.wrap ((BitVec.ofInt 64 (y : Int) ^^^ BitVec.ofInt 64 ((4294967295 : Nat) : Int)).toNat : Int) = _
  rw [BitVec.toNat_xor, BitVec.ofInt_natCast, BitVec.ofInt_natCast, BitVec.toNat_ofNat, BitVec.toNat_ofNat, Nat.mod_eq_of_lt (by omega), Nat.mod_eq_of_lt (by omega), h1]
  exact wrapN _ (by unfold W64; omega)
theorem fv_one : fv 1 = .agg #[.int .u64 1, .int .u64 0, .int .u64 0, .int .u64 0] := rfl
theorem fv_zero : fv 0 = .agg #[.int .u64 0, .int .u64 0, .int .u64 0, .int .u64 0] := rfl
theorem fv_not {M : Nat} (hM : M < P128) : fv (P128 - 1 - M) = .agg #[wv (4294967295 - q0 M), wv (4294967295 - q1 M), wv (4294967295 - q2 M), wv (4294967295 - q3 M)] := by
  have a0 := q0_lt M
  have a1 := q1_lt M
  have a2 := q2_lt M
  have a3 := q3_lt hM
  have eM := q_eq M
  exact fv_mk (by omega) (by omega) (by omega) (by unfold P128 W64 at *; omega)

set_option maxRecDepth 100000 in
set_option maxHeartbeats 1000000 in
theorem rsub_any (N M : Nat) (hN : N < P128) (hM : M < P128) (w : World) :
    Calls Tryd.prog 30 #[fv N, fv M] w fun e w' => e = .returned (.tuple #[fv ((N + P128 - M) % P128), .bool (decide (N < M))]) ∧ Below w.heap.size w w' := by
  have hP : 0 < P128 := by unfold P128 W64; omega
  have HA := Lib.hid (fun W => radd_any (P128 - 1 - M) 1 (by omega) (by unfold P128 W64; omega) W)
  rw [fv_not hM, fv_one] at HA
  have HB2 := Lib.hid (fun W => radd_any N ((P128 - 1 - M + 1) % P128) hN (Nat.mod_lt _ hP) W)
  have HC := Lib.hid (fun W => rcmp_any N M hN hM W)
  have e0 := four_not (q0 M) (q0_lt M)
  have e1 := four_not (q1 M) (q1_lt M)
  have e2 := four_not (q2 M) (q2_lt M)
  have e3 := four_not (q3 M) (q3_lt hM)
  have hr : (N + (P128 - 1 - M + 1) % P128) % P128 = (N + P128 - M) % P128 := by rw [Nat.add_mod_mod]; congr 1; omega
  rw [hr] at HB2
  generalize (P128 - 1 - M + 1) % P128 = Z at *
  generalize (N + P128 - M) % P128 = D at *
  have hd : decide (cmpI N M < 0) = decide (N < M) := by
    unfold cmpI
    by_cases h1 : N = M
    · rw [if_pos h1]; simp; omega
    · rw [if_neg h1]
      by_cases h2 : N < M
      · rw [if_pos h2]; simp [h2]
      · rw [if_neg h2]; simp; omega
  generalize cmpI N M = C at *
  generalize decide (N < M) = lt at *
  generalize decide (P128 ≤ P128 - 1 - M + 1) = o1 at *
  generalize decide (P128 ≤ N + Z) = o2 at *
  clear hN hM hP hr
  unfold fv at *
  generalize 4294967295 - q0 M = z0 at *
  generalize 4294967295 - q1 M = z1 at *
  generalize 4294967295 - q2 M = z2 at *
  generalize 4294967295 - q3 M = z3 at *
  generalize q0 N = x0 at *
  generalize q1 N = x1 at *
  generalize q2 N = x2 at *
  generalize q3 N = x3 at *
  generalize q0 M = y0 at *
  generalize q1 M = y1 at *
  generalize q2 M = y2 at *
  generalize q3 M = y3 at *
  generalize q0 Z = u0 at *
  generalize q1 Z = u1 at *
  generalize q2 Z = u2 at *
  generalize q3 Z = u3 at *
  generalize q0 D = d0 at *
  generalize q1 D = d1 at *
  generalize q2 D = d2 at *
  generalize q3 D = d3 at *
  go_enter Tryd.func30, Tryd.ntmps30
  go_wp2_with fail
  refine (HA.out _).mono ?_
  rintro e w1 ⟨rfl, hb⟩
  have G1 := (Blk.new w 30 #[wv x0, wv x1, wv x2, wv x3]).alloc (.cells #[wv y0, wv y1, wv y2, wv y3] 30) |>.alloc (.cells #[.int .u64 0, .int .u64 0, .int .u64 0, .int .u64 0] 30) |>.st hb
  have G2 := (Blk.new2 w 30 #[wv y0, wv y1, wv y2, wv y3] (.cells #[wv x0, wv x1, wv x2, wv x3] 30)).alloc (.cells #[.int .u64 0, .int .u64 0, .int .u64 0, .int .u64 0] 30) |>.st hb
  have G4 := (Blk.new2 (w.alloc (.cells #[wv x0, wv x1, wv x2, wv x3] 30)) 30 #[.int .u64 0, .int .u64 0, .int .u64 0, .int .u64 0] (.cells #[wv y0, wv y1, wv y2, wv y3] 30)).st hb
  rw [World.size_alloc] at G4
  have hB := ((((Below.refl _ w).alloc (Nat.le_refl _) (.cells #[wv x0, wv x1, wv x2, wv x3] 30)).alloc (by simp) (.cells #[wv y0, wv y1, wv y2, wv y3] 30)).alloc (by simp; omega) (.cells #[.int .u64 0, .int .u64 0, .int .u64 0, .int .u64 0] 30)).trans (hb.mono (by simp; omega))
  clear hb
  have K1 := Lib.hid (G1.alloc (.cells #[wv u0, wv u1, wv u2, wv u3] 30))
  have K2 := Lib.hid (G2.alloc (.cells #[wv u0, wv u1, wv u2, wv u3] 30))
  have K4 := Lib.hid (G4.alloc (.cells #[wv u0, wv u1, wv u2, wv u3] 30))
  have KB := Lib.hid (hB.alloc hB.size (.cells #[wv u0, wv u1, wv u2, wv u3] 30))
  clear G1 G2 G4 hB
  have a0 := K1.out.cell 0
  have a1 := K1.out.cell 1
  have a2 := K1.out.cell 2
  have a3 := K1.out.cell 3
  go_wp2_with fail
  refine (HB2.out _).mono ?_
  rintro e w2 ⟨rfl, hb⟩
  have L1 := Lib.hid ((K1.out.st hb).alloc (.cells #[wv d0, wv d1, wv d2, wv d3] 30))
  have L2 := Lib.hid ((K2.out.st hb).alloc (.cells #[wv d0, wv d1, wv d2, wv d3] 30))
  have L4 := Lib.hid ((K4.out.st hb).alloc (.cells #[wv d0, wv d1, wv d2, wv d3] 30))
  have hB := (KB.out.trans (hb.mono KB.out.size))
  have LB := Lib.hid (hB.alloc hB.size (.cells #[wv d0, wv d1, wv d2, wv d3] 30))
  have hz : w.heap.size + 1 + 1 < w2.heap.size := (K4.out.st hb).lt
  clear hb hB a0 a1 a2 a3
  go_wp2_with fail
  have L8 := Blk.new w2 30 #[wv d0, wv d1, wv d2, wv d3]
  have SDL : w.heap.size ≤ w.heap.size := by first | exact Nat.le_refl _ | omega | (simp; done)
  obtain ⟨S, SD⟩ : ∃ S : World → Prop, Go.RowKit.Hid (∀ w' : World, S w' ↔ (Blk w' w.heap.size 30 #[wv x0, wv x1, wv x2, wv x3] ∧ Blk w' (w.heap.size + 1) 30 #[wv y0, wv y1, wv y2, wv y3] ∧ (∃ u0 u1 u2 u3, Blk w' (w.heap.size + 1 + 1) 30 #[u0, u1, u2, u3]) ∧ Blk w' w2.heap.size 30 #[wv d0, wv d1, wv d2, wv d3] ∧ Below w.heap.size w w')) := ⟨_, Lib.hid (fun _ => Iff.rfl)⟩
  refine wp_region_way (S := S) (by kernel_rfl) (by kernel_rfl) (fun W W' h hb => by obtain ⟨h0, h1, ⟨u2_0, u2_1, u2_2, u2_3, h2⟩, h3, hB⟩ := (SD.out _).1 h; exact (SD.out _).2 ⟨h0.st hb, h1.st hb, ⟨u2_0, u2_1, u2_2, u2_3, h2.st hb⟩, h3.st hb, hB.trans (hb.mono (Nat.le_trans SDL hB.size))⟩) ((SD.out _).2 (⟨L1.out, L2.out, ⟨_, _, _, _, L4.out⟩, L8, LB.out.drew⟩)) ?_
  first
    | (refine Way.no 0 (by rfl) (by kernel_rfl) (by rfl) ?_; simp only [Act.put, List.setIfInBounds_toArray, List.set_cons_zero, List.set_cons_succ])
    | (refine' Way.yes 0 (by rfl) (by kernel_rfl) (by rfl) (fun wS hS => ?_) ?_
       rotate_left
       · have hS' := (SD.out _).1 hS
         obtain ⟨hb0, hb1, ⟨u2_0, u2_1, u2_2, u2_3, hb2⟩, hb3, hB⟩ := hS'
         have c0_0 := hb0.cell 0
         have c0_1 := hb0.cell 1
         have c0_2 := hb0.cell 2
         have c0_3 := hb0.cell 3
         have c1_0 := hb1.cell 0
         have c1_1 := hb1.cell 1
         have c1_2 := hb1.cell 2
         have c1_3 := hb1.cell 3
         have c2_0 := hb2.cell 0
         have c2_1 := hb2.cell 1
         have c2_2 := hb2.cell 2
         have c2_3 := hb2.cell 3
         have c3_0 := hb3.cell 0
         have c3_1 := hb3.cell 1
         have c3_2 := hb3.cell 2
         have c3_3 := hb3.cell 3
         go_simp
         first
           | exact ⟨rfl, Below.refl _ _⟩
           | (go_at_call 33; exact HC.out _)
       simp only [Act.put, List.setIfInBounds_toArray, List.set_cons_zero, List.set_cons_succ])
  first
    | (refine Way.no 1 (by rfl) (by kernel_rfl) (by rfl) ?_; simp only [Act.put, List.setIfInBounds_toArray, List.set_cons_zero, List.set_cons_succ])
    | (refine' Way.yes 1 (by rfl) (by kernel_rfl) (by rfl) (fun wS hS => ?_) ?_
       rotate_left
       · have hS' := (SD.out _).1 hS
         obtain ⟨hb0, hb1, ⟨u2_0, u2_1, u2_2, u2_3, hb2⟩, hb3, hB⟩ := hS'
         have c0_0 := hb0.cell 0
         have c0_1 := hb0.cell 1
         have c0_2 := hb0.cell 2
         have c0_3 := hb0.cell 3
         have c1_0 := hb1.cell 0
         have c1_1 := hb1.cell 1
         have c1_2 := hb1.cell 2
         have c1_3 := hb1.cell 3
         have c2_0 := hb2.cell 0
         have c2_1 := hb2.cell 1
         have c2_2 := hb2.cell 2
         have c2_3 := hb2.cell 3
         have c3_0 := hb3.cell 0
         have c3_1 := hb3.cell 1
         have c3_2 := hb3.cell 2
         have c3_3 := hb3.cell 3
         go_simp
         first
           | exact ⟨rfl, Below.refl _ _⟩
           | (go_at_call 33; exact HC.out _)
       simp only [Act.put, List.setIfInBounds_toArray, List.set_cons_zero, List.set_cons_succ])
  first
    | (refine Way.no 2 (by rfl) (by kernel_rfl) (by rfl) ?_; simp only [Act.put, List.setIfInBounds_toArray, List.set_cons_zero, List.set_cons_succ])
    | (refine' Way.yes 2 (by rfl) (by kernel_rfl) (by rfl) (fun wS hS => ?_) ?_
       rotate_left
       · have hS' := (SD.out _).1 hS
         obtain ⟨hb0, hb1, ⟨u2_0, u2_1, u2_2, u2_3, hb2⟩, hb3, hB⟩ := hS'
         have c0_0 := hb0.cell 0
         have c0_1 := hb0.cell 1
         have c0_2 := hb0.cell 2
         have c0_3 := hb0.cell 3
         have c1_0 := hb1.cell 0
         have c1_1 := hb1.cell 1
         have c1_2 := hb1.cell 2
         have c1_3 := hb1.cell 3
         have c2_0 := hb2.cell 0
         have c2_1 := hb2.cell 1
         have c2_2 := hb2.cell 2
         have c2_3 := hb2.cell 3
         have c3_0 := hb3.cell 0
         have c3_1 := hb3.cell 1
         have c3_2 := hb3.cell 2
         have c3_3 := hb3.cell 3
         go_simp
         first
           | exact ⟨rfl, Below.refl _ _⟩
           | (go_at_call 33; exact HC.out _)
       simp only [Act.put, List.setIfInBounds_toArray, List.set_cons_zero, List.set_cons_succ])
  first
    | (refine Way.no 3 (by rfl) (by kernel_rfl) (by rfl) ?_; simp only [Act.put, List.setIfInBounds_toArray, List.set_cons_zero, List.set_cons_succ])
    | (refine' Way.yes 3 (by rfl) (by kernel_rfl) (by rfl) (fun wS hS => ?_) ?_
       rotate_left
       · have hS' := (SD.out _).1 hS
         obtain ⟨hb0, hb1, ⟨u2_0, u2_1, u2_2, u2_3, hb2⟩, hb3, hB⟩ := hS'
         have c0_0 := hb0.cell 0
         have c0_1 := hb0.cell 1
         have c0_2 := hb0.cell 2
         have c0_3 := hb0.cell 3
         have c1_0 := hb1.cell 0
         have c1_1 := hb1.cell 1
         have c1_2 := hb1.cell 2
         have c1_3 := hb1.cell 3
         have c2_0 := hb2.cell 0
         have c2_1 := hb2.cell 1
         have c2_2 := hb2.cell 2
         have c2_3 := hb2.cell 3
         have c3_0 := hb3.cell 0
         have c3_1 := hb3.cell 1
         have c3_2 := hb3.cell 2
         have c3_3 := hb3.cell 3
         go_simp
         first
           | exact ⟨rfl, Below.refl _ _⟩
           | (go_at_call 33; exact HC.out _)
       simp only [Act.put, List.setIfInBounds_toArray, List.set_cons_zero, List.set_cons_succ])
  first
    | (refine Way.no 4 (by rfl) (by kernel_rfl) (by rfl) ?_; simp only [Act.put, List.setIfInBounds_toArray, List.set_cons_zero, List.set_cons_succ])
    | (refine' Way.yes 4 (by rfl) (by kernel_rfl) (by rfl) (fun wS hS => ?_) ?_
       rotate_left
       · have hS' := (SD.out _).1 hS
         obtain ⟨hb0, hb1, ⟨u2_0, u2_1, u2_2, u2_3, hb2⟩, hb3, hB⟩ := hS'
         have c0_0 := hb0.cell 0
         have c0_1 := hb0.cell 1
         have c0_2 := hb0.cell 2
         have c0_3 := hb0.cell 3
         have c1_0 := hb1.cell 0
         have c1_1 := hb1.cell 1
         have c1_2 := hb1.cell 2
         have c1_3 := hb1.cell 3
         have c2_0 := hb2.cell 0
         have c2_1 := hb2.cell 1
         have c2_2 := hb2.cell 2
         have c2_3 := hb2.cell 3
         have c3_0 := hb3.cell 0
         have c3_1 := hb3.cell 1
         have c3_2 := hb3.cell 2
         have c3_3 := hb3.cell 3
         go_simp
         first
           | exact ⟨rfl, Below.refl _ _⟩
           | (go_at_call 33; exact HC.out _)
       simp only [Act.put, List.setIfInBounds_toArray, List.set_cons_zero, List.set_cons_succ])
  refine Way.move 5 (by rfl) (by kernel_rfl) (by rfl) (fun wS hS => ?_)
  have hS' := (SD.out _).1 hS
  obtain ⟨hb0, hb1, ⟨u2_0, u2_1, u2_2, u2_3, hb2⟩, hb3, hB⟩ := hS'
  have c0_0 := hb0.cell 0
  have c0_1 := hb0.cell 1
  have c0_2 := hb0.cell 2
  have c0_3 := hb0.cell 3
  have c1_0 := hb1.cell 0
  have c1_1 := hb1.cell 1
  have c1_2 := hb1.cell 2
  have c1_3 := hb1.cell 3
  have c2_0 := hb2.cell 0
  have c2_1 := hb2.cell 1
  have c2_2 := hb2.cell 2
  have c2_3 := hb2.cell 3
  have c3_0 := hb3.cell 0
  have c3_1 := hb3.cell 1
  have c3_2 := hb3.cell 2
  have c3_3 := hb3.cell 3
  have f2_0 := hb2.frozen 0
  have f2_1 := hb2.frozen 1
  have f2_2 := hb2.frozen 2
  have f2_3 := hb2.frozen 3
  go_simp
  obtain ⟨S_1, SD_1⟩ : ∃ S_1 : World → Prop, Go.RowKit.Hid (∀ x : World, S_1 x ↔ (Blk x w.heap.size 30 #[wv x0, wv x1, wv x2, wv x3] ∧ Blk x (w.heap.size + 1) 30 #[wv y0, wv y1, wv y2, wv y3] ∧ Blk x (w.heap.size + 1 + 1) 30 #[wv d0, wv d1, wv d2, wv d3] ∧ Blk x w2.heap.size 30 #[wv d0, wv d1, wv d2, wv d3] ∧ Below w.heap.size w x)) := ⟨_, Lib.hid (fun _ => Iff.rfl)⟩
  have hst : Stays S_1 := fun W W' h hb => by obtain ⟨h0, h1, h2, h3, hB⟩ := (SD_1.out _).1 h; exact (SD_1.out _).2 ⟨h0.st hb, h1.st hb, h2.st hb, h3.st hb, hB.trans (hb.mono (Nat.le_trans SDL hB.size))⟩
  have hle : ∀ x, S_1 x → S x := fun x h => by obtain ⟨h0, h1, h2, h3, hB⟩ := (SD_1.out _).1 h; exact (SD.out _).2 ⟨h0, h1, ⟨_, _, _, _, h2⟩, h3, hB⟩
  refine Moved.keep S_1 hst hle ((SD_1.out _).2 ⟨((((hb0.far (by first | (simp; done) | (simp; omega)) _).far (by first | (simp; done) | (simp; omega)) _).far (by first | (simp; done) | (simp; omega)) _).far (by first | (simp; done) | (simp; omega)) _), ((((hb1.far (by first | (simp; done) | (simp; omega)) _).far (by first | (simp; done) | (simp; omega)) _).far (by first | (simp; done) | (simp; omega)) _).far (by first | (simp; done) | (simp; omega)) _), ((((hb2.set1 0 _).set1 1 _).set1 2 _).set1 3 _), ((((hb3.far (by first | (simp; done) | (simp; omega)) _).far (by first | (simp; done) | (simp; omega)) _).far (by first | (simp; done) | (simp; omega)) _).far (by first | (simp; done) | (simp; omega)) _), ((((hB.setCell (by first | (simp; done) | (simp; omega)) _).setCell (by first | (simp; done) | (simp; omega)) _).setCell (by first | (simp; done) | (simp; omega)) _).setCell (by first | (simp; done) | (simp; omega)) _)⟩) ?_
  try simp only [Act.put, List.setIfInBounds_toArray, List.set_cons_zero, List.set_cons_succ]
  first
    | (refine Way.no 6 (by rfl) (by kernel_rfl) (by rfl) ?_; simp only [Act.put, List.setIfInBounds_toArray, List.set_cons_zero, List.set_cons_succ])
    | (refine' Way.yes 6 (by rfl) (by kernel_rfl) (by rfl) (fun wS hS => ?_) ?_
       rotate_left
       · have hS' := (SD_1.out _).1 hS
         obtain ⟨hb0, hb1, hb2, hb3, hB⟩ := hS'
         have c0_0 := hb0.cell 0
         have c0_1 := hb0.cell 1
         have c0_2 := hb0.cell 2
         have c0_3 := hb0.cell 3
         have c1_0 := hb1.cell 0
         have c1_1 := hb1.cell 1
         have c1_2 := hb1.cell 2
         have c1_3 := hb1.cell 3
         have c2_0 := hb2.cell 0
         have c2_1 := hb2.cell 1
         have c2_2 := hb2.cell 2
         have c2_3 := hb2.cell 3
         have c3_0 := hb3.cell 0
         have c3_1 := hb3.cell 1
         have c3_2 := hb3.cell 2
         have c3_3 := hb3.cell 3
         go_simp
         first
           | exact ⟨rfl, Below.refl _ _⟩
       simp only [Act.put, List.setIfInBounds_toArray, List.set_cons_zero, List.set_cons_succ])
  refine Way.done (by kernel_rfl) (fun wE hS => ?_)
  have hS' := (SD_1.out _).1 hS
  obtain ⟨hb0, hb1, hb2, hb3, hB⟩ := hS'
  have c0_0 := hb0.cell 0
  have c0_1 := hb0.cell 1
  have c0_2 := hb0.cell 2
  have c0_3 := hb0.cell 3
  have c1_0 := hb1.cell 0
  have c1_1 := hb1.cell 1
  have c1_2 := hb1.cell 2
  have c1_3 := hb1.cell 3
  have c2_0 := hb2.cell 0
  have c2_1 := hb2.cell 1
  have c2_2 := hb2.cell 2
  have c2_3 := hb2.cell 3
  have c3_0 := hb3.cell 0
  have c3_1 := hb3.cell 1
  have c3_2 := hb3.cell 2
  have c3_3 := hb3.cell 3
  clear hS
  go_wp2_with fail
  exact bodyPost_ret (v := .tuple #[.agg #[wv d0, wv d1, wv d2, wv d3], .bool lt]) (by simp [results, Tryd.results30, go_sem, c2_0, c2_1, c2_2, c2_3]) rfl ⟨rfl, hB⟩

set_option maxRecDepth 100000 in
set_option maxHeartbeats 1000000 in
theorem rshl_any (N : Nat) (n : Int) (hN : N < P128) (hn : n ≤ 9223372036854775807) (w : World) :
    Calls Tryd.prog 31 #[fv N, .int .i64 n] w fun e w' => e = .returned (fv (N * 2 ^ cutN n % P128)) ∧ Below w.heap.size w w' := by
  have hK : ∀ k : Nat, k < cutN n ↔ ((k : Int) < n ∧ (k : Int) < 128) := fun k => by unfold cutN; omega
  have hK2 := cutN_le n
  generalize cutN n = K at *
  unfold fv
  go_enter Tryd.func31, Tryd.ntmps31
  have HKA := Lib.hid hK
  clear hK
  go_wp2_with fail
  go_loopw [5] (fun i wr => ∃ k : Nat, i = .int .i64 k ∧ k ≤ K ∧ FB wr w.heap.size (N * 2 ^ k % P128) ∧ Blk wr (w.heap.size + 1) 30 #[.int .u64 0, .int .u64 0, .int .u64 0, .int .u64 0] ∧ Below w.heap.size w wr) (fun i _ => K - (intOf i).toNat)
  case atStart =>
    refine ⟨0, rfl, Nat.zero_le _, ?_, ?_, ?_⟩
    · rw [show N * 2 ^ 0 % P128 = N from by rw [Nat.pow_zero, Nat.mul_one, Nat.mod_eq_of_lt hN]]
      exact (Blk.new w 30 #[wv (q0 N), wv (q1 N), wv (q2 N), wv (q3 N)]).alloc _
    · exact Blk.new2 w _ _ _
    · exact ((Below.refl _ w).alloc (Nat.le_refl _) _).alloc (by simp) _
  case round =>
    obtain ⟨k, rfl, hk, hb2, hb4, hB⟩ := hrel
    have hX := Nat.mod_lt (N * 2 ^ k) (show 0 < P128 by unfold P128 W64; omega)
    have hNX := (show N * 2 ^ (k + 1) % P128 = (N * 2 ^ k % P128 + N * 2 ^ k % P128) % P128 by rw [← Nat.add_mod, Nat.pow_succ, ← Nat.mul_assoc, Nat.mul_two])
    have HV : k = K → Go.RowKit.Hid (N * 2 ^ k % P128 = N * 2 ^ K % P128) := fun h => Lib.hid (by rw [h])
    generalize N * 2 ^ k % P128 = X at *
    have HNX := Lib.hid hNX
    have HX := Lib.hid hX
    have HB := Lib.hid hB
    have H2 := Lib.hid hb2
    have H4 := Lib.hid hb4
    obtain ⟨c0, c1, c2, c3⟩ := hb2.cells
    clear hB hb2 hb4 hX hNX
    by_cases hlt : k < K
    · obtain ⟨ha, hb⟩ := (HKA.out k).1 hlt
      have t1 : decide ((k : Int) < n) = true := by simpa using ha
      have t2 : decide ((k : Int) < 128) = true := by simpa using hb
      have hk1 : (k : Int) < 128 := hb
      have hk0 : (0 : Int) ≤ k := by omega
      have HLT := Lib.hid hlt
      clear ha hb hlt HV
      go_wp2_with fail
      refine (radd_any X X HX.out HX.out _).mono ?_
      rintro e w1 ⟨rfl, hb⟩
      have h2 := H2.out.st hb
      have J2 := Lib.hid h2
      have J4 := Lib.hid (H4.out.st hb)
      have JB := Lib.hid (HB.out.trans (hb.mono HB.out.size))
      clear c0 c1 c2 c3
      obtain ⟨c0, c1, c2, c3⟩ := h2.cells
      obtain ⟨f0, f1, f2, f3⟩ := h2.frozen
      clear h2 hb
      unfold fv
      go_wp2_with fail
      go_roundw
      case rel => exact ⟨k + 1, by go_num, HLT.out, by rw [HNX.out]; exact J2.out.put _, ((((J4.out.far (p := ⟨w.heap.size, 0, none⟩) (by simp) _).far (p := ⟨w.heap.size, 1, none⟩) (by simp) _).far (p := ⟨w.heap.size, 2, none⟩) (by simp) _).far (p := ⟨w.heap.size, 3, none⟩) (by simp) _), below_put4 JB.out (Nat.le_refl _) _⟩
      case measure => have := HLT.out; simp [intOf]; omega
    · obtain hkK : k = K := by omega
      have HV := HV hkK
      have hn2 := HKA.out k
      have hor : (decide ((k : Int) < n) = false) ∨ (decide ((k : Int) < n) = true ∧ decide ((k : Int) < 128) = false) := by
        by_cases h1 : (k : Int) < n
        · right; exact ⟨by simpa using h1, by simp; omega⟩
        · left; simpa using h1
      obtain ⟨e0, e1, e2, e3⟩ : wr.cell? ⟨w.heap.size + 1, 0, none⟩ = some (.int .u64 0) ∧ wr.cell? ⟨w.heap.size + 1, 1, none⟩ = some (.int .u64 0) ∧ wr.cell? ⟨w.heap.size + 1, 2, none⟩ = some (.int .u64 0) ∧ wr.cell? ⟨w.heap.size + 1, 3, none⟩ = some (.int .u64 0) := ⟨H4.out.cell 0, H4.out.cell 1, H4.out.cell 2, H4.out.cell 3⟩
      have f0 := H4.out.frozen 0
      have f1 := H4.out.frozen 1
      have f2 := H4.out.frozen 2
      have f3 := H4.out.frozen 3
      have HE := Lib.hid ((((H4.out.set1 0 (wv (q0 X))).set1 1 (wv (q1 X))).set1 2 (wv (q2 X))).set1 3 (wv (q3 X)))
      have HBL := Lib.hid (below_put4 HB.out (k := w.heap.size + 1) (by omega) X)
      clear hn2 hlt hk hkK
      rcases hor with t1 | ⟨t1, t2⟩
      all_goals
        go_wp2_with fail
        have e0 := HE.out.cell 0
        have e1 := HE.out.cell 1
        have e2 := HE.out.cell 2
        have e3 := HE.out.cell 3
        rw [← HV.out]
        exact bodyPost_ret (v := .agg #[wv (q0 X), wv (q1 X), wv (q2 X), wv (q3 X)]) (by simp [results, Tryd.results31, go_sem, e0, e1, e2, e3]) rfl ⟨rfl, HBL.out⟩

set_option maxRecDepth 100000 in
set_option maxHeartbeats 1000000 in
theorem rshr_any (N : Nat) (n : Int) (hN : N < P128) (hn : n ≤ 9223372036854775807) (w : World) :
    Calls Tryd.prog 32 #[fv N, .int .i64 n] w fun e w' => e = .returned (fv (N / 2 ^ cutN n)) ∧ Below w.heap.size w w' := by
  have hK : ∀ k : Nat, k < cutN n ↔ ((k : Int) < n ∧ (k : Int) < 128) := fun k => by unfold cutN; omega
  have hK2 := cutN_le n
  generalize cutN n = K at *
  unfold fv
  go_enter Tryd.func32, Tryd.ntmps32
  have HKA := Lib.hid hK
  clear hK
  go_wp2_with fail
  go_loopw [5] (fun i wr => ∃ k : Nat, i = .int .i64 k ∧ k ≤ K ∧ FB wr w.heap.size (N / 2 ^ k) ∧ Blk wr (w.heap.size + 1) 30 #[.int .u64 0, .int .u64 0, .int .u64 0, .int .u64 0] ∧ Below w.heap.size w wr) (fun i _ => K - (intOf i).toNat)
  case atStart =>
    refine ⟨0, rfl, Nat.zero_le _, ?_, ?_, ?_⟩
    · rw [show N / 2 ^ 0 = N from by rw [Nat.pow_zero, Nat.div_one]]
      exact (Blk.new w 30 #[wv (q0 N), wv (q1 N), wv (q2 N), wv (q3 N)]).alloc _
    · exact Blk.new2 w _ _ _
    · exact ((Below.refl _ w).alloc (Nat.le_refl _) _).alloc (by simp) _
  case round =>
    obtain ⟨k, rfl, hk, hb2, hb4, hB⟩ := hrel
    have hX := Nat.lt_of_le_of_lt (Nat.div_le_self N (2 ^ k)) hN
    have hNX := (show N / 2 ^ (k + 1) = N / 2 ^ k / 2 by rw [Nat.pow_succ, Nat.div_div_eq_div_mul])
    have HV : k = K → Go.RowKit.Hid (N / 2 ^ k = N / 2 ^ K) := fun h => Lib.hid (by rw [h])
    generalize N / 2 ^ k = X at *
    have HNX := Lib.hid hNX
    have HX := Lib.hid hX
    have HB := Lib.hid hB
    have H2 := Lib.hid hb2
    have H4 := Lib.hid hb4
    obtain ⟨c0, c1, c2, c3⟩ := hb2.cells
    clear hB hb2 hb4 hX hNX
    by_cases hlt : k < K
    · obtain ⟨ha, hb⟩ := (HKA.out k).1 hlt
      have t1 : decide ((k : Int) < n) = true := by simpa using ha
      have t2 : decide ((k : Int) < 128) = true := by simpa using hb
      have hk1 : (k : Int) < 128 := hb
      have hk0 : (0 : Int) ≤ k := by omega
      have HLT := Lib.hid hlt
      clear ha hb hlt HV
      go_wp2_with fail
      refine (half_any X HX.out _).mono ?_
      rintro e w1 ⟨rfl, hb⟩
      have h2 := H2.out.st hb
      have J2 := Lib.hid h2
      have J4 := Lib.hid (H4.out.st hb)
      have JB := Lib.hid (HB.out.trans (hb.mono HB.out.size))
      clear c0 c1 c2 c3
      obtain ⟨c0, c1, c2, c3⟩ := h2.cells
      obtain ⟨f0, f1, f2, f3⟩ := h2.frozen
      clear h2 hb
      unfold fv
      go_wp2_with fail
      go_roundw
      case rel => exact ⟨k + 1, by go_num, HLT.out, by rw [HNX.out]; exact J2.out.put _, ((((J4.out.far (p := ⟨w.heap.size, 0, none⟩) (by simp) _).far (p := ⟨w.heap.size, 1, none⟩) (by simp) _).far (p := ⟨w.heap.size, 2, none⟩) (by simp) _).far (p := ⟨w.heap.size, 3, none⟩) (by simp) _), below_put4 JB.out (Nat.le_refl _) _⟩
      case measure => have := HLT.out; simp [intOf]; omega
    · obtain hkK : k = K := by omega
      have HV := HV hkK
      have hn2 := HKA.out k
      have hor : (decide ((k : Int) < n) = false) ∨ (decide ((k : Int) < n) = true ∧ decide ((k : Int) < 128) = false) := by
        by_cases h1 : (k : Int) < n
        · right; exact ⟨by simpa using h1, by simp; omega⟩
        · left; simpa using h1
      obtain ⟨e0, e1, e2, e3⟩ : wr.cell? ⟨w.heap.size + 1, 0, none⟩ = some (.int .u64 0) ∧ wr.cell? ⟨w.heap.size + 1, 1, none⟩ = some (.int .u64 0) ∧ wr.cell? ⟨w.heap.size + 1, 2, none⟩ = some (.int .u64 0) ∧ wr.cell? ⟨w.heap.size + 1, 3, none⟩ = some (.int .u64 0) := ⟨H4.out.cell 0, H4.out.cell 1, H4.out.cell 2, H4.out.cell 3⟩
      have f0 := H4.out.frozen 0
      have f1 := H4.out.frozen 1
      have f2 := H4.out.frozen 2
      have f3 := H4.out.frozen 3
      have HE := Lib.hid ((((H4.out.set1 0 (wv (q0 X))).set1 1 (wv (q1 X))).set1 2 (wv (q2 X))).set1 3 (wv (q3 X)))
      have HBL := Lib.hid (below_put4 HB.out (k := w.heap.size + 1) (by omega) X)
      clear hn2 hlt hk hkK
      rcases hor with t1 | ⟨t1, t2⟩
      all_goals
        go_wp2_with fail
        have e0 := HE.out.cell 0
        have e1 := HE.out.cell 1
        have e2 := HE.out.cell 2
        have e3 := HE.out.cell 3
        rw [← HV.out]
        exact bodyPost_ret (v := .agg #[wv (q0 X), wv (q1 X), wv (q2 X), wv (q3 X)]) (by simp [results, Tryd.results32, go_sem, e0, e1, e2, e3]) rfl ⟨rfl, HBL.out⟩

end Go.Proofs.YtnghcpgdfkchdaaDoor
