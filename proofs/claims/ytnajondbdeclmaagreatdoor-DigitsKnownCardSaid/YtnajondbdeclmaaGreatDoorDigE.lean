/- The program's digits: parts, scaled, ends. The program's digits: from where to where numbers round to a float (ends). The program's digits: whether a number rounds to a float (a closure), a number's row. The program's digits: the fewest digits of a float (Shortest). The program's digits: Shortest of any bits. -/
import Derived.Test.YtnajondbdeclmaaGreatDoorDigQ
import Derived.Test.YtnajondbdeclmaaGreatDoorNatP
import Derived.Test.YtnajondbdeclmaaGreatDoorNatO
import Derived.Test.YtnajondbdeclmaaGreatDoorCalm
import Derived.Test.YtnajondbdeclmaaGreatDoorStay
import Derived.Test.YtnajondbdeclmaaGreatDoorText
import Derived.Test.YtnajondbdeclmaaGreatDoorShelf
import Derived.Test.YtnajondbdeclmaaGreatDoorParse
namespace Go.Proofs.YtnajondbdeclmaaGreatDoor
open Go.RowKit
attribute [local go_sem] SGives_value SGives_skip SGives_enter CGives_value CGives_skip CGives_enter MGives_value MGives_skip MGives_enter
set_option linter.unusedSimpArgs false
set_option linter.unusedVariables false

/-- A number, and no error. -/
def NatT (x : Nat) (w : World) (e : Ending) (w' : World) : Prop := ∃ A n c, e = .returned (.tuple #[.agg #[.slice A n c], .nilIface]) ∧ NatL w' A n c x ∧ Below w.heap.size w w'
theorem NatB.t {x : Nat} {w w' : World} {e : Ending} (h : NatB x w e w') (hx : blen x ≤ 8192) : NatT x w e w' := by
  unfold NatB at h
  rw [if_pos hx] at h
  obtain ⟨v, rfl, ⟨A, n, c, rfl, hl⟩, hb⟩ := h
  exact ⟨A, n, c, rfl, hl, hb⟩
theorem NatE.t {x : Nat} {w w' : World} {e : Ending} (h : NatE x w e w') : NatT x w e w' := by
  obtain ⟨v, rfl, ⟨A, n, c, rfl, hl⟩, hb⟩ := h
  exact ⟨A, n, c, rfl, hl, hb⟩
theorem U5_blen : blen U5 ≤ 3225 := by
  have h : blen U5 ≤ 3 * unitE := blen_le.2 U5_lt
  unfold unitE at h
  omega
theorem blen_prod {x y a b : Nat} (hx : x < 2 ^ a) (hy : y < 2 ^ b) : x * y < 2 ^ (a + b) := by rw [Nat.pow_add]; exact Nat.mul_lt_mul'' hx hy
theorem pow_u5 : 5 ^ unitE = U5 := rfl
theorem five_nat (w : World) : Calls Tryz.prog 51 #[.int .u64 5, .int .i64 1075] w (NatT U5 w) := by
  obtain ⟨E, hE⟩ : ∃ E, E = unitE := ⟨_, rfl⟩
  have h1 : E = 1075 := hE
  have h := power_nat 5 E w (by omega) (by unfold W64; omega) (by omega) (by omega)
  have hp : 5 ^ E = U5 := by rw [hE]; exact pow_u5
  rw [hp, h1] at h
  clear hp
  have hb : blen U5 ≤ 8192 := Nat.le_trans U5_blen (by decide)
  generalize U5 = U at *
  exact h.mono fun e w' hm => NatB.t hm hb

set_option maxRecDepth 100000 in
set_option maxHeartbeats 2000000 in
theorem scaled_nat (m : Nat) (q : Int) (w : World) (hm : m < 2 ^ 56) (hq1 : -1075 ≤ q) (hq2 : q ≤ 971) :
    Calls Tryz.prog 46 #[.int .u64 m, .int .i64 q] w (NatV (sv5 m q) w) := by
  have hk : (q + unitE).toNat ≤ 2046 := by unfold unitE; omega
  obtain ⟨E1, hE1⟩ : ∃ E, E = 3 * unitE + 56 := ⟨_, rfl⟩
  obtain ⟨P, hP⟩ : ∃ P, P = 2047 := ⟨_, rfl⟩
  obtain ⟨E2, hE2⟩ : ∃ E, E = E1 + P := ⟨_, rfl⟩
  have hE3 : E1 = 3281 := hE1
  have hmm : U5 * m < 2 ^ E1 := by rw [hE1]; exact blen_prod U5_lt hm
  have hmk : U5 * m * 2 ^ (q + unitE).toNat < 2 ^ E2 := by rw [hE2]; exact blen_prod hmm (Nat.pow_lt_pow_right (by decide) (by clear hmm; omega))
  have hb0 : blen U5 ≤ 3225 := U5_blen
  have hb1 : blen (U5 * m) ≤ E1 := blen_le.2 hmm
  have hb2 : blen (sv5 m q) ≤ E2 := blen_le.2 hmk
  clear hmm hmk
  have K1 := Lib.hid five_nat
  have K2 : Hid (∀ W A n c, NatL W A n c U5 → Calls Tryz.prog 89 #[.agg #[.slice A n c], .int .u64 (m : Int)] W (NatT (U5 * m) W)) := Lib.hid (fun W A n c h =>
    (times_nat (.agg #[.slice A n c]) U5 m W ⟨A, n, c, rfl, h⟩ (by unfold W64; omega) (by omega)).mono fun e w' hh => hh.t (by omega))
  have K3 : Hid (∀ W A n c, NatL W A n c (U5 * m) → Calls Tryz.prog 90 #[.agg #[.slice A n c], .int .i64 (q + 1075)] W (NatT (sv5 m q) W)) := Lib.hid (fun W A n c h =>
    (shl_nat (.agg #[.slice A n c]) (U5 * m) (q + 1075) W ⟨A, n, c, rfl, h⟩ (by omega) (by omega)).mono fun e w' hh => NatB.t (show NatB (sv5 m q) W e w' from hh) (by omega))
  have kq : IntKind.i64.wrap (q + 1075) = q + 1075 := IntWalk.i64_in _ (by omega)
  have B0 := Lib.hid (Blk.new w 75 #[.slice none 0 0])
  have BB := Lib.hid (below_new w (.cells #[.slice none 0 0] 75))
  clear hk hm hb0 hb1 hb2 hE1 hE2 hE3 hP
  generalize sv5 m q = X at *
  go_enter Tryz.func46, Tryz.ntmps46
  go_wp2_with fail
  have c0_0 := B0.out.cell 0
  with_reducible refine (K1.out _).mono ?_
  rintro e w1 ⟨A1, n1, c1, rfl, hl, hb⟩
  clear c0_0
  have B0 := Lib.hid ((B0.out.st hb).alloc (.cells #[.slice A1 n1 c1] 75))
  have N0 := Lib.hid (hl.below (below_new _ (.cells #[.slice A1 n1 c1] 75)))
  have hbk := keepb BB.out hb
  have BB := Lib.hid (hbk.alloc hbk.size (.cells #[.slice A1 n1 c1] 75))
  have B1 := Lib.hid (Blk.new w1 75 #[.slice A1 n1 c1])
  clear hbk hb hl
  have c0_0 := B0.out.cell 0
  have c1_0 := B1.out.cell 0
  go_wp2_with fail
  with_reducible refine (K2.out _ _ _ _ N0.out).mono ?_
  rintro e w2 ⟨A2, n2, c2', rfl, hl, hb⟩
  have HW2 : Hid (w.heap.size < w2.heap.size) := Lib.hid (Nat.lt_of_lt_of_le B0.out.lt hb.size)
  clear c0_0 c1_0
  have B0 := Lib.hid ((B0.out.st hb).alloc (.cells #[.slice A2 n2 c2'] 75))
  have B1 := Lib.hid ((B1.out.st hb).alloc (.cells #[.slice A2 n2 c2'] 75))
  have N0 := Lib.hid ((N0.out.below hb).below (below_new _ (.cells #[.slice A2 n2 c2'] 75)))
  have N1 := Lib.hid (hl.below (below_new _ (.cells #[.slice A2 n2 c2'] 75)))
  have hbk := keepb BB.out hb
  have BB := Lib.hid (hbk.alloc hbk.size (.cells #[.slice A2 n2 c2'] 75))
  have B2 := Lib.hid (Blk.new w2 75 #[.slice A2 n2 c2'])
  clear hbk hb hl
  have c0_0 := B0.out.cell 0
  have c1_0 := B1.out.cell 0
  have c2_0 := B2.out.cell 0
  go_wp2_with fail
  with_reducible refine (K3.out _ _ _ _ N1.out).mono ?_
  rintro e w3 ⟨A3, n3, c3, rfl, hl, hb⟩
  clear c0_0 c1_0 c2_0
  have B0 := Lib.hid (B0.out.st hb)
  have B1 := Lib.hid (B1.out.st hb)
  have B2 := Lib.hid (B2.out.st hb)
  have N0 := Lib.hid (N0.out.below hb)
  have N1 := Lib.hid (N1.out.below hb)
  have N2 := Lib.hid hl
  have hbk := keepb BB.out hb
  have BB := Lib.hid hbk
  clear hbk hb hl
  have c0_0 := B0.out.cell 0
  have c1_0 := B1.out.cell 0
  have c2_0 := B2.out.cell 0
  clear c0_0 c1_0 c2_0
  obtain ⟨g7, hg7⟩ : ∃ g, w2.heap.size = g := ⟨_, rfl⟩
  rw [hg7] at B2 ⊢
  have hlt7 : w.heap.size < g7 := by rw [← hg7]; exact HW2.out
  obtain ⟨f2, c2⟩ : w3.frozen? ⟨g7, 0, none⟩ = false ∧ w3.cell? ⟨g7, 0, none⟩ = some (.slice A2 n2 c2') := ⟨B2.out.frozen 0, B2.out.cell 0⟩
  have B2' := Lib.hid (B2.out.set1 0 (.slice A3 n3 c3))
  have B0' := Lib.hid (B0.out.far (p := ⟨g7, 0, none⟩) (by simp; omega) (.slice A3 n3 c3))
  have N3' := Lib.hid (N2.out.set B2.out (by decide) (i := 0) (.slice A3 n3 c3))
  have BB' := Lib.hid (BB.out.setCell (p := ⟨g7, 0, none⟩) (Nat.le_of_lt hlt7) (.slice A3 n3 c3))
  have B2'' : Hid (Blk (w3.setCell ⟨g7, 0, none⟩ (.slice A3 n3 c3)) g7 75 #[.slice A3 n3 c3]) := Lib.hid B2'.out
  clear hg7 hlt7
  go_upto_region 4 with fail
  clear f2 c2
  generalize w3.setCell ⟨g7, 0, none⟩ (.slice A3 n3 c3) = W4 at *
  have c2 : W4.cell? ⟨g7, 0, none⟩ = some (.slice A3 n3 c3) := B2''.out.cell 0
  obtain ⟨f0, c0⟩ : W4.frozen? ⟨w.heap.size, 0, none⟩ = false ∧ W4.cell? ⟨w.heap.size, 0, none⟩ = some (.slice none 0 0) := ⟨B0'.out.frozen 0, B0'.out.cell 0⟩
  go_wp2_with fail
  have hp := B0'.out.put (i := 0) (by simp) (.slice A3 n3 c3)
  exact bodyPost_ret (v := .agg #[.slice A3 n3 c3]) (by simp [results, Tryz.results46, go_sem, hp]) rfl ⟨_, rfl, ⟨A3, n3, c3, rfl, N3'.out.set B0'.out (by decide) _⟩, BB'.out.setCell (p := ⟨w.heap.size, 0, none⟩) (Nat.le_refl _) _⟩

theorem dparts_at (n z q r : Nat) (w : World) (hn : n < 18446744073709551616) (hz : n / 4503599627370496 = z) (hq : z % 2048 = q) (hr : n % 4503599627370496 = r) :
    (q = 2047 → Calls Tryz.prog 45 #[.int .u64 n] w fun e w' => e = .returned (.tuple #[.int .u64 0, .int .i64 0, .bool false]) ∧ w = w') ∧
    (q = 0 → Calls Tryz.prog 45 #[.int .u64 n] w fun e w' => e = .returned (.tuple #[.int .u64 (r : Int), .int .i64 (-1074), .bool true]) ∧ w = w') ∧
    (q ≠ 2047 → q ≠ 0 → Calls Tryz.prog 45 #[.int .u64 n] w fun e w' => e = .returned (.tuple #[.int .u64 ((r + 4503599627370496 : Nat) : Int), .int .i64 ((q : Int) - 1075), .bool true]) ∧ w = w') := by
  have e1 : (n : Int) / 4503599627370496 = (z : Int) := by omega
  have hql : q < 2048 := by omega
  have hrl : r < 4503599627370496 := by omega
  have e2 : bits .and .u64 (z : Int) 2047 = (q : Int) := by
    have h := and_low z 11 (by unfold W64; omega) (by decide)
    rw [show (2 : Nat) ^ 11 = 2048 from rfl, hq] at h
    exact h
  have e3 : bits .and .u64 (n : Int) 4503599627370495 = (r : Int) := by
    have h := and_low n 52 (by unfold W64; omega) (by decide)
    rw [show (2 : Nat) ^ 52 = 4503599627370496 from rfl, hr] at h
    exact h
  have e4 : bits .or .u64 (r : Int) 4503599627370496 = ((r + 4503599627370496 : Nat) : Int) := by
    have h := orN' (H := 4503599627370496) (L := r) (s := 52) ⟨1, rfl⟩ hrl (by unfold W64; omega)
    rw [Nat.add_comm] at h
    exact h
  have kq : IntKind.i64.wrap (q : Int) = (q : Int) := IntWalk.i64_in _ (by omega)
  have hnI : (n : Int) ≤ 18446744073709551615 := by omega
  have hqI : (q : Int) ≤ 2047 := by omega
  have hrI : (r : Int) < 4503599627370496 := by omega
  clear hn hz hq hr hql hrl
  refine ⟨fun h => ?_, fun h => ?_, fun h h0 => ?_⟩
  · subst h
    have e0 : ((2047 : Nat) : Int) = 2047 := rfl
    rw [e0] at e2 kq
    clear e0 hqI e4
    go_enter Tryz.func45, Tryz.ntmps45
    go_wp2_with fail
    exact bodyPost_ret (v := .tuple #[.int .u64 0, .int .i64 0, .bool false]) (by simp [results, Tryz.results45, go_sem]) rfl ⟨rfl, rfl⟩
  · subst h
    have e0 : ((0 : Nat) : Int) = 0 := rfl
    rw [e0] at e2 kq
    clear e0 hqI e4
    go_enter Tryz.func45, Tryz.ntmps45
    go_wp2_with fail
    exact bodyPost_ret (v := .tuple #[.int .u64 (r : Int), .int .i64 (-1074), .bool true]) (by simp [results, Tryz.results45, go_sem]) rfl ⟨rfl, rfl⟩
  · have t1 : ((q : Int) == 2047) = false := by rw [beq_eq_false_iff_ne]; omega
    have t2 : ((q : Int) == 0) = false := by rw [beq_eq_false_iff_ne]; omega
    have k5 : IntKind.i64.wrap ((q : Int) - 1075) = (q : Int) - 1075 := IntWalk.i64_in _ (by omega)
    generalize r + 4503599627370496 = R at *
    clear h h0
    go_enter Tryz.func45, Tryz.ntmps45
    go_wp2_with fail
    exact bodyPost_ret (v := .tuple #[.int .u64 (R : Int), .int .i64 ((q : Int) - 1075), .bool true]) (by simp [results, Tryz.results45, go_sem]) rfl ⟨rfl, rfl⟩
theorem dparts_inf (n : Nat) (w : World) (hn : n < 18446744073709551616) (hf : most < n % 9223372036854775808) :
    Calls Tryz.prog 45 #[.int .u64 n] w fun e w' => e = .returned (.tuple #[.int .u64 0, .int .i64 0, .bool false]) ∧ w = w' :=
  (dparts_at n _ _ _ w hn rfl rfl rfl).1 (by unfold most at hf; omega)
theorem dparts_fin (n : Nat) (w : World) (hn : n < 18446744073709551616) (hf : n % 9223372036854775808 ≤ most) :
    Calls Tryz.prog 45 #[.int .u64 n] w fun e w' => e = .returned (.tuple #[.int .u64 (fltM (n % 9223372036854775808) : Nat), .int .i64 (fltK (n % 9223372036854775808)), .bool true]) ∧ w = w' := by
  have hq0 : n / 4503599627370496 % 2048 = n % 9223372036854775808 / 4503599627370496 := by omega
  have hr0 : n % 4503599627370496 = n % 9223372036854775808 % 4503599627370496 := by omega
  have hq : n % 9223372036854775808 / 4503599627370496 < 2047 := by unfold most at hf; omega
  obtain ⟨_, h2, h3⟩ := dparts_at n _ _ _ w hn rfl hq0 hr0
  unfold fltM fltK
  by_cases h0 : n % 9223372036854775808 / 4503599627370496 = 0
  · rw [if_pos h0, if_pos h0]
    exact h2 h0
  · rw [if_neg h0, if_neg h0]
    exact h3 (by omega) h0
end Go.Proofs.YtnajondbdeclmaaGreatDoor

namespace Go.Proofs.YtnajondbdeclmaaGreatDoor
open Go.RowKit
attribute [local go_sem] SGives_value SGives_skip SGives_enter CGives_value CGives_skip CGives_enter MGives_value MGives_skip MGives_enter
set_option linter.unusedSimpArgs false
set_option linter.unusedVariables false

/-- What ends answers. -/
def EndsP (b : Nat) (w : World) (e : Ending) (w' : World) : Prop := ∃ A n c A' n' c', e = .returned (.tuple #[.agg #[.slice A n c], .agg #[.slice A' n' c'], .bool (b % 2 == 0)]) ∧ NatL w' A n c (fromN b) ∧ NatL w' A' n' c' (toN b) ∧ Below w.heap.size w w'
/-- scaled, opened. -/
def NatO (x : Nat) (w : World) (e : Ending) (w' : World) : Prop := ∃ A n c, e = .returned (.agg #[.slice A n c]) ∧ NatL w' A n c x ∧ Below w.heap.size w w'
theorem scaled_o (m : Nat) (q : Int) (x : Nat) (w : World) (hm : m < 2 ^ 56) (hq1 : -1075 ≤ q) (hq2 : q ≤ 971) (hx : sv5 m q = x) :
    Calls Tryz.prog 46 #[.int .u64 m, .int .i64 q] w (NatO x w) :=
  (scaled_nat m q w hm hq1 hq2).mono fun e w' h => by rw [hx] at h; exact h.open

set_option maxRecDepth 100000 in
set_option maxHeartbeats 4000000 in
theorem ends_nat (b : Nat) (w : World) (hb : b ≤ most) :
    Calls Tryz.prog 47 #[.int .u64 (fltM b : Nat), .int .i64 (fltK b)] w (EndsP b w) := by
  obtain ⟨hm, hk1, hk2⟩ := flt_bounds hb
  have hm0 : fltM b = 0 ↔ b = 0 := (flt_form b 1074 rfl).2.2.2
  have hpar := fltM_par b
  have KT : Hid (∀ W, Calls Tryz.prog 46 #[.int .u64 ((2 * fltM b + 1 : Nat) : Int), .int .i64 (fltK b - 1)] W (NatO (toN b) W)) := Lib.hid (fun W => scaled_o _ _ _ W (by omega) (by omega) (by omega) (sv5_to b))
  have KF1 : Hid (0 < b → fltM b = 4503599627370496 → -1074 < fltK b → ∀ W, Calls Tryz.prog 46 #[.int .u64 ((4 * fltM b - 1 : Nat) : Int), .int .i64 (fltK b - 2)] W (NatO (fromN b) W)) := Lib.hid (fun h0 h1 h2 W => scaled_o _ _ _ W (by omega) (by omega) (by omega) ((sv5_from b h0).1 ⟨h1, h2⟩))
  have KF2 : Hid (0 < b → ¬ (fltM b = 4503599627370496 ∧ -1074 < fltK b) → ∀ W, Calls Tryz.prog 46 #[.int .u64 ((2 * fltM b - 1 : Nat) : Int), .int .i64 (fltK b - 1)] W (NatO (fromN b) W)) := Lib.hid (fun h0 h1 W => scaled_o _ _ _ W (by omega) (by omega) (by omega) ((sv5_from b h0).2 h1))
  have HF0 : Hid (b = 0 → fromN b = 0) := Lib.hid (fun h => if_pos h)
  have HBP : Hid ((b % 2 == 0) = (((fltM b % 2 : Nat) : Int) == 0)) := Lib.hid (by
    rw [← hpar]
    rcases Nat.mod_two_eq_zero_or_one (fltM b) with h | h <;> rw [h] <;> rfl)
  have HEV : Hid (∀ e w', (∃ A n c A' n' c', e = .returned (.tuple #[.agg #[.slice A n c], .agg #[.slice A' n' c'], .bool (((fltM b % 2 : Nat) : Int) == 0)]) ∧ NatL w' A n c (fromN b) ∧ NatL w' A' n' c' (toN b) ∧ Below w.heap.size w w') → EndsP b w e w') := Lib.hid (fun e w' h => by unfold EndsP; rw [HBP.out]; exact h)
  obtain ⟨F, hF⟩ : ∃ F, fromN b = F := ⟨_, rfl⟩
  obtain ⟨T, hT⟩ : ∃ T, toN b = T := ⟨_, rfl⟩
  rw [hF] at KF1 KF2 HF0 HEV
  rw [hT] at KT HEV
  have HM0 := Lib.hid hm0
  clear hF hT hpar HBP hm0 hb
  have B0 := Lib.hid ((Blk.new w 75 #[.slice none 0 0]).alloc (.cells #[.slice none 0 0] 75))
  have B1 := Lib.hid (show Blk ((w.alloc (.cells #[.slice none 0 0] 75)).alloc (.cells #[.slice none 0 0] 75)) (w.heap.size + 1) 75 #[.slice none 0 0] by
    have := Blk.new (w.alloc (.cells #[.slice none 0 0] 75)) 75 #[.slice none 0 0]
    rwa [World.size_alloc] at this)
  have BB := Lib.hid (((Below.refl _ w).alloc (Nat.le_refl _) (.cells #[.slice none 0 0] 75)).alloc (by simp) (.cells #[.slice none 0 0] 75))
  generalize fltK b = k at *
  generalize fltM b = m at *
  refine Calls.mono ?_ (fun e w' h => HEV.out e w' h)
  clear HEV
  have hmI : (m : Int) < 9007199254740992 := by omega
  go_enter Tryz.func47, Tryz.ntmps47
  go_upto_block 0 with fail
  obtain ⟨W0, hW0⟩ : ∃ W0, (w.alloc (.cells #[.slice none 0 0] 75)).alloc (.cells #[.slice none 0 0] 75) = W0 := ⟨_, rfl⟩
  rw [hW0] at B0 B1 BB ⊢
  clear hW0
  obtain ⟨c0, f0⟩ : W0.cell? ⟨w.heap.size, 0, none⟩ = some (.slice none 0 0) ∧ W0.frozen? ⟨w.heap.size, 0, none⟩ = false := ⟨B0.out.cell 0, B0.out.frozen 0⟩
  go_cut [13] from 7 to 29 (fun s13 wx => ∃ A n c, Blk wx w.heap.size 75 #[.slice A n c] ∧ Blk wx (w.heap.size + 1) 75 #[.slice none 0 0] ∧ NatL wx A n c F ∧ Below w.heap.size w wx)
  case first =>
    by_cases hz : m = 0
    · have HV := Lib.hid (HF0.out (HM0.out.1 hz))
      subst hz
      clear hm
      go_wp2_with fail
      go_meet
      exact ⟨none, 0, 0, B0.out, B1.out, by rw [HV.out]; exact ⟨[], IsF.nil _, rfl, RT.nil _ _, Nat.le_refl _⟩, BB.out⟩
    have hb0 : 0 < b := Nat.pos_of_ne_zero fun h => hz (HM0.out.2 h)
    have t1 : ((m : Int) == 0) = false := by rw [beq_eq_false_iff_ne]; omega
    have t1' : (m == 0) = false := by rw [beq_eq_false_iff_ne]; omega
    by_cases h1 : m = 4503599627370496 ∧ -1074 < k
    · have HC := Lib.hid (KF1.out hb0 h1.1 h1.2)
      obtain ⟨h1, h2⟩ := h1
      subst h1
      have t3 : decide (-1074 < k) = true := decide_eq_true h2
      have k1 : IntKind.i64.wrap (k - 2) = k - 2 := IntWalk.i64_in _ (by omega)
      have e0 : ((4503599627370496 : Nat) : Int) = 4503599627370496 := rfl
      have e1 : ((4 * 4503599627370496 - 1 : Nat) : Int) = 18014398509481983 := rfl
      rw [e1] at HC
      rw [e0]
      clear hz hb0 t1 t1' hm h2 e0 e1 hmI
      go_wp2_with fail
      refine (HC.out _).mono ?_
      rintro e w1 ⟨A1, n1, c1, rfl, hl, hb⟩
      have B0' := Lib.hid (B0.out.st hb)
      have B1' := Lib.hid (B1.out.st hb)
      have N1 := Lib.hid hl
      have BB' := Lib.hid (keepb BB.out hb)
      clear hl hb c0 f0
      obtain ⟨c0, f0⟩ : w1.cell? ⟨w.heap.size, 0, none⟩ = some (.slice none 0 0) ∧ w1.frozen? ⟨w.heap.size, 0, none⟩ = false := ⟨B0'.out.cell 0, B0'.out.frozen 0⟩
      go_wp2_with fail
      go_meet
      exact ⟨A1, n1, c1, B0'.out.set1 0 _, B1'.out.far (p := ⟨w.heap.size, 0, none⟩) (by simp) _, N1.out.set B0'.out (by decide) _, BB'.out.setCell (p := ⟨w.heap.size, 0, none⟩) (Nat.le_refl _) _⟩
    · have HC := Lib.hid (KF2.out hb0 h1)
      have hor : (((m : Int) == 4503599627370496) = false ∧ (m == 4503599627370496) = false) ∨ ((((m : Int) == 4503599627370496) = true ∧ (m == 4503599627370496) = true) ∧ decide (-1074 < k) = false) := by
        by_cases h2 : m = 4503599627370496
        · exact .inr ⟨⟨by rw [beq_iff_eq]; omega, by rw [beq_iff_eq]; exact h2⟩, decide_eq_false fun h3 => h1 ⟨h2, h3⟩⟩
        · exact .inl ⟨by rw [beq_eq_false_iff_ne]; omega, by rw [beq_eq_false_iff_ne]; exact h2⟩
      obtain ⟨m2, hm2⟩ : ∃ m2, 2 * m = m2 := ⟨_, rfl⟩
      obtain ⟨m3, hm3⟩ : ∃ m3, m2 - 1 = m3 := ⟨_, rfl⟩
      rw [hm2, hm3] at HC
      have k1 : IntKind.i64.wrap (k - 1) = k - 1 := IntWalk.i64_in _ (by omega)
      have k2 : (2 : Int) * (m : Int) = (m2 : Int) := by omega
      have k2' : IntKind.u64.wrap ((2 : Int) * (m : Int)) = (m2 : Int) := by rw [k2]; exact wrapN _ (by unfold W64; omega)
      have k3 : (m2 : Int) - 1 = (m3 : Int) := by omega
      have k3' : IntKind.u64.wrap ((m2 : Int) - 1) = (m3 : Int) := by rw [k3]; exact wrapN _ (by unfold W64; omega)
      clear hz h1 hb0 hm hm2 hm3
      rcases hor with ⟨q1, q2⟩ | ⟨⟨q1, q2⟩, q3⟩
      all_goals
        go_wp2_with fail
        refine (HC.out _).mono ?_
        rintro e w1 ⟨A1, n1, c1, rfl, hl, hb⟩
        have B0' := Lib.hid (B0.out.st hb)
        have B1' := Lib.hid (B1.out.st hb)
        have N1 := Lib.hid hl
        have BB' := Lib.hid (keepb BB.out hb)
        clear hl hb c0 f0
        obtain ⟨c0, f0⟩ : w1.cell? ⟨w.heap.size, 0, none⟩ = some (.slice none 0 0) ∧ w1.frozen? ⟨w.heap.size, 0, none⟩ = false := ⟨B0'.out.cell 0, B0'.out.frozen 0⟩
        go_wp2_with fail
        go_meet
        exact ⟨A1, n1, c1, B0'.out.set1 0 _, B1'.out.far (p := ⟨w.heap.size, 0, none⟩) (by simp) _, N1.out.set B0'.out (by decide) _, BB'.out.setCell (p := ⟨w.heap.size, 0, none⟩) (Nat.le_refl _) _⟩
  case rest =>
  clear c0 f0 B0 B1 BB KF1 KF2 HF0 HM0
  obtain ⟨A, n, c, hb0, hb1, hl0, hB⟩ := hcut
  rename World => wx
  have B0 := Lib.hid hb0
  have B1 := Lib.hid hb1
  have N0 := Lib.hid hl0
  have BB := Lib.hid hB
  clear hb0 hb1 hl0 hB
  obtain ⟨m2, hm2⟩ : ∃ m2, 2 * m = m2 := ⟨_, rfl⟩
  obtain ⟨m3, hm3⟩ : ∃ m3, m2 + 1 = m3 := ⟨_, rfl⟩
  rw [hm2, hm3] at KT
  have k1 : IntKind.i64.wrap (k - 1) = k - 1 := IntWalk.i64_in _ (by omega)
  have k2' : IntKind.u64.wrap ((2 : Int) * (m : Int)) = (m2 : Int) := by rw [show (2 : Int) * (m : Int) = (m2 : Int) by omega]; exact wrapN _ (by unfold W64; omega)
  have k3' : IntKind.u64.wrap ((m2 : Int) + 1) = (m3 : Int) := by rw [show (m2 : Int) + 1 = (m3 : Int) by omega]; exact wrapN _ (by unfold W64; omega)
  have e3 : (m : Int) % 2 = ((m % 2 : Nat) : Int) := by omega
  have e4 : Int.tmod (m : Int) 2 = ((m % 2 : Nat) : Int) := by rw [Int.tmod_eq_emod_of_nonneg (by omega)]; omega
  obtain ⟨r, hr⟩ : ∃ r, m % 2 = r := ⟨_, rfl⟩
  rw [hr] at e3 e4
  have HR := Lib.hid hr
  clear hr
  clear hm hm2 hm3
  go_upto_region 5 with fail
  have SDL : w.heap.size ≤ w.heap.size := Nat.le_refl _
  obtain ⟨S, SD⟩ : ∃ S : World → Prop, Go.RowKit.Hid (∀ x : World, S x ↔ (Blk x w.heap.size 75 #[.slice A n c] ∧ (∃ u0, Blk x (w.heap.size + 1) 75 #[u0]) ∧ NatL x A n c (F) ∧ Below w.heap.size w x)) := ⟨_, Lib.hid (fun _ => Iff.rfl)⟩
  refine wp_region_way (S := S) (by kernel_rfl) (by kernel_rfl) (fun W W' h hb => by obtain ⟨hb0, ⟨u1_0, hb1⟩, hn0, hB⟩ := (SD.out _).1 h; exact (SD.out _).2 ⟨hb0.st hb, ⟨u1_0, hb1.st hb⟩, hn0.below hb, hB.trans (hb.mono (Nat.le_trans SDL hB.size))⟩) ((SD.out _).2 ⟨B0.out.drew, ⟨_, B1.out.drew⟩, N0.out, BB.out.drew⟩) ?_
  first
    | (refine Way.no 0 (by rfl) (by kernel_rfl) (by rfl) ?_; simp only [Act.put, List.setIfInBounds_toArray, List.set_cons_zero, List.set_cons_succ])
    | (refine' Way.yes 0 (by rfl) (by kernel_rfl) (by rfl) (fun wS hS => ?_) ?_
       rotate_left
       · have hS' := (SD.out _).1 hS
         obtain ⟨hb0, ⟨u1_0, hb1⟩, hn0, hB⟩ := hS'
         have c0_0 := hb0.cell 0
         have c1_0 := hb1.cell 0
         go_simp
         first
           | exact ⟨rfl, Below.refl _ _⟩
       simp only [Act.put, List.setIfInBounds_toArray, List.set_cons_zero, List.set_cons_succ])
  first
    | (refine Way.no 1 (by rfl) (by kernel_rfl) (by rfl) ?_; simp only [Act.put, List.setIfInBounds_toArray, List.set_cons_zero, List.set_cons_succ])
    | (refine' Way.yes 1 (by rfl) (by kernel_rfl) (by rfl) (fun wS hS => ?_) ?_
       rotate_left
       · have hS' := (SD.out _).1 hS
         obtain ⟨hb0, ⟨u1_0, hb1⟩, hn0, hB⟩ := hS'
         have c0_0 := hb0.cell 0
         have c1_0 := hb1.cell 0
         go_simp
         first
           | exact ⟨rfl, Below.refl _ _⟩
       simp only [Act.put, List.setIfInBounds_toArray, List.set_cons_zero, List.set_cons_succ])
  first
    | (refine Way.no 2 (by rfl) (by kernel_rfl) (by rfl) ?_; simp only [Act.put, List.setIfInBounds_toArray, List.set_cons_zero, List.set_cons_succ])
    | (refine' Way.yes 2 (by rfl) (by kernel_rfl) (by rfl) (fun wS hS => ?_) ?_
       rotate_left
       · have hS' := (SD.out _).1 hS
         obtain ⟨hb0, ⟨u1_0, hb1⟩, hn0, hB⟩ := hS'
         have c0_0 := hb0.cell 0
         have c1_0 := hb1.cell 0
         go_simp
         first
           | exact ⟨rfl, Below.refl _ _⟩
       simp only [Act.put, List.setIfInBounds_toArray, List.set_cons_zero, List.set_cons_succ])
  first
    | (refine Way.no 3 (by rfl) (by kernel_rfl) (by rfl) ?_; simp only [Act.put, List.setIfInBounds_toArray, List.set_cons_zero, List.set_cons_succ])
    | (refine' Way.yes 3 (by rfl) (by kernel_rfl) (by rfl) (fun wS hS => ?_) ?_
       rotate_left
       · have hS' := (SD.out _).1 hS
         obtain ⟨hb0, ⟨u1_0, hb1⟩, hn0, hB⟩ := hS'
         have c0_0 := hb0.cell 0
         have c1_0 := hb1.cell 0
         go_simp
         first
           | exact ⟨rfl, Below.refl _ _⟩
       simp only [Act.put, List.setIfInBounds_toArray, List.set_cons_zero, List.set_cons_succ])
  first
    | (refine Way.no 4 (by rfl) (by kernel_rfl) (by rfl) ?_; simp only [Act.put, List.setIfInBounds_toArray, List.set_cons_zero, List.set_cons_succ])
    | (refine' Way.yes 4 (by rfl) (by kernel_rfl) (by rfl) (fun wS hS => ?_) ?_
       rotate_left
       · have hS' := (SD.out _).1 hS
         obtain ⟨hb0, ⟨u1_0, hb1⟩, hn0, hB⟩ := hS'
         have c0_0 := hb0.cell 0
         have c1_0 := hb1.cell 0
         go_simp
         first
           | exact ⟨rfl, Below.refl _ _⟩
       simp only [Act.put, List.setIfInBounds_toArray, List.set_cons_zero, List.set_cons_succ])
  first
    | (refine Way.no 5 (by rfl) (by kernel_rfl) (by rfl) ?_; simp only [Act.put, List.setIfInBounds_toArray, List.set_cons_zero, List.set_cons_succ])
    | (refine' Way.yes 5 (by rfl) (by kernel_rfl) (by rfl) (fun wS hS => ?_) ?_
       rotate_left
       · have hS' := (SD.out _).1 hS
         obtain ⟨hb0, ⟨u1_0, hb1⟩, hn0, hB⟩ := hS'
         have c0_0 := hb0.cell 0
         have c1_0 := hb1.cell 0
         go_simp
         first
           | exact ⟨rfl, Below.refl _ _⟩
       simp only [Act.put, List.setIfInBounds_toArray, List.set_cons_zero, List.set_cons_succ])
  first
    | (refine Way.no 7 (by rfl) (by kernel_rfl) (by rfl) ?_; simp only [Act.put, List.setIfInBounds_toArray, List.set_cons_zero, List.set_cons_succ])
    | (refine' Way.yes 7 (by rfl) (by kernel_rfl) (by rfl) (fun wS hS => ?_) ?_
       rotate_left
       · have hS' := (SD.out _).1 hS
         obtain ⟨hb0, ⟨u1_0, hb1⟩, hn0, hB⟩ := hS'
         have c0_0 := hb0.cell 0
         have c1_0 := hb1.cell 0
         go_simp
         first
           | exact ⟨rfl, Below.refl _ _⟩
       simp only [Act.put, List.setIfInBounds_toArray, List.set_cons_zero, List.set_cons_succ])
  first
    | (refine Way.no 8 (by rfl) (by kernel_rfl) (by rfl) ?_; simp only [Act.put, List.setIfInBounds_toArray, List.set_cons_zero, List.set_cons_succ])
    | (refine' Way.yes 8 (by rfl) (by kernel_rfl) (by rfl) (fun wS hS => ?_) ?_
       rotate_left
       · have hS' := (SD.out _).1 hS
         obtain ⟨hb0, ⟨u1_0, hb1⟩, hn0, hB⟩ := hS'
         have c0_0 := hb0.cell 0
         have c1_0 := hb1.cell 0
         go_simp
         first
           | exact ⟨rfl, Below.refl _ _⟩
       simp only [Act.put, List.setIfInBounds_toArray, List.set_cons_zero, List.set_cons_succ])
  first
    | (refine Way.no 9 (by rfl) (by kernel_rfl) (by rfl) ?_; simp only [Act.put, List.setIfInBounds_toArray, List.set_cons_zero, List.set_cons_succ])
    | (refine' Way.yes 9 (by rfl) (by kernel_rfl) (by rfl) (fun wS hS => ?_) ?_
       rotate_left
       · have hS' := (SD.out _).1 hS
         obtain ⟨hb0, ⟨u1_0, hb1⟩, hn0, hB⟩ := hS'
         have c0_0 := hb0.cell 0
         have c1_0 := hb1.cell 0
         go_simp
         first
           | exact ⟨rfl, Below.refl _ _⟩
       simp only [Act.put, List.setIfInBounds_toArray, List.set_cons_zero, List.set_cons_succ])
  refine Way.move 6 (by rfl) (by kernel_rfl) (by rfl) (fun wM hS => ?_)
  have hS' := (SD.out _).1 hS
  obtain ⟨hb0, ⟨u1_0, hb1⟩, hn0, hB⟩ := hS'
  have c0_0 := hb0.cell 0
  have c1_0 := hb1.cell 0
  go_simp
  with_reducible refine (KT.out _).mono ?_
  rintro e wN ⟨A1, n1, c1, rfl, hl, hb⟩
  refine ⟨_, rfl, ?_⟩
  obtain ⟨S_1, SD_1⟩ : ∃ S_1 : World → Prop, Go.RowKit.Hid (∀ x : World, S_1 x ↔ (Blk x w.heap.size 75 #[.slice A n c] ∧ (∃ u0, Blk x (w.heap.size + 1) 75 #[u0]) ∧ NatL x A n c (F) ∧ NatL x A1 n1 c1 (T) ∧ Below w.heap.size w x)) := ⟨_, Lib.hid (fun _ => Iff.rfl)⟩
  have hst : Stays S_1 := fun W W' h hb => by obtain ⟨hb0, ⟨u1_0, hb1⟩, hn0, hn1, hB⟩ := (SD_1.out _).1 h; exact (SD_1.out _).2 ⟨hb0.st hb, ⟨u1_0, hb1.st hb⟩, hn0.below hb, hn1.below hb, hB.trans (hb.mono (Nat.le_trans SDL hB.size))⟩
  have hle : ∀ x, S_1 x → S x := fun x h => by obtain ⟨hb0, ⟨u1_0, hb1⟩, hn0, hn1, hB⟩ := (SD_1.out _).1 h; exact (SD.out _).2 ⟨hb0, ⟨u1_0, hb1⟩, hn0, hB⟩
  refine Moved.keep S_1 hst hle ((SD_1.out _).2 ⟨hb0.st hb, ⟨u1_0, hb1.st hb⟩, hn0.below hb, hl, hB.trans (hb.mono (Nat.le_trans SDL hB.size))⟩) ?_
  clear hst hle
  try simp only [Act.put, List.setIfInBounds_toArray, List.set_cons_zero, List.set_cons_succ]
  refine Way.move 10 (by rfl) (by kernel_rfl) (by rfl) (fun wS hS => ?_)
  have hS' := (SD_1.out _).1 hS
  obtain ⟨hb0, ⟨u1_0, hb1⟩, hn0, hn1, hB⟩ := hS'
  have c0_0 := hb0.cell 0
  have c1_0 := hb1.cell 0
  have f0_0 := hb0.frozen 0
  go_simp
  obtain ⟨S_2, SD_2⟩ : ∃ S_2 : World → Prop, Go.RowKit.Hid (∀ x : World, S_2 x ↔ (Blk x w.heap.size 75 #[.slice A n c] ∧ (∃ u0, Blk x (w.heap.size + 1) 75 #[u0]) ∧ NatL x A n c (F) ∧ NatL x A1 n1 c1 (T) ∧ Below w.heap.size w x)) := ⟨_, Lib.hid (fun _ => Iff.rfl)⟩
  have hst : Stays S_2 := fun W W' h hb => by obtain ⟨hb0, ⟨u1_0, hb1⟩, hn0, hn1, hB⟩ := (SD_2.out _).1 h; exact (SD_2.out _).2 ⟨hb0.st hb, ⟨u1_0, hb1.st hb⟩, hn0.below hb, hn1.below hb, hB.trans (hb.mono (Nat.le_trans SDL hB.size))⟩
  have hle : ∀ x, S_2 x → S_1 x := fun x h => by obtain ⟨hb0, ⟨u1_0, hb1⟩, hn0, hn1, hB⟩ := (SD_2.out _).1 h; exact (SD_1.out _).2 ⟨hb0, ⟨_, hb1⟩, hn0, hn1, hB⟩
  refine Moved.keep S_2 hst hle ((SD_2.out _).2 ⟨(hb0.set1 0 _), ⟨u1_0, (hb1.far (by first | (simp; done) | (simp; omega)) _)⟩, (hn0.set hb0 (by decide) _), (hn1.set hb0 (by decide) _), (hB.setCell (by first | (simp; done) | (simp; omega)) _)⟩) ?_
  clear hst hle
  try simp only [Act.put, List.setIfInBounds_toArray, List.set_cons_zero, List.set_cons_succ]
  refine Way.move 11 (by rfl) (by kernel_rfl) (by rfl) (fun wS hS => ?_)
  have hS' := (SD_2.out _).1 hS
  obtain ⟨hb0, ⟨u1_0, hb1⟩, hn0, hn1, hB⟩ := hS'
  have c0_0 := hb0.cell 0
  have c1_0 := hb1.cell 0
  have f1_0 := hb1.frozen 0
  go_simp
  obtain ⟨S_3, SD_3⟩ : ∃ S_3 : World → Prop, Go.RowKit.Hid (∀ x : World, S_3 x ↔ (Blk x w.heap.size 75 #[.slice A n c] ∧ Blk x (w.heap.size + 1) 75 #[.slice A1 n1 c1] ∧ NatL x A n c (F) ∧ NatL x A1 n1 c1 (T) ∧ Below w.heap.size w x)) := ⟨_, Lib.hid (fun _ => Iff.rfl)⟩
  have hst : Stays S_3 := fun W W' h hb => by obtain ⟨hb0, hb1, hn0, hn1, hB⟩ := (SD_3.out _).1 h; exact (SD_3.out _).2 ⟨hb0.st hb, hb1.st hb, hn0.below hb, hn1.below hb, hB.trans (hb.mono (Nat.le_trans SDL hB.size))⟩
  have hle : ∀ x, S_3 x → S_2 x := fun x h => by obtain ⟨hb0, hb1, hn0, hn1, hB⟩ := (SD_3.out _).1 h; exact (SD_2.out _).2 ⟨hb0, ⟨_, hb1⟩, hn0, hn1, hB⟩
  refine Moved.keep S_3 hst hle ((SD_3.out _).2 ⟨(hb0.far (by first | (simp; done) | (simp; omega)) _), (hb1.set1 0 _), (hn0.set hb1 (by decide) _), (hn1.set hb1 (by decide) _), (hB.setCell (by first | (simp; done) | (simp; omega)) _)⟩) ?_
  clear hst hle
  try simp only [Act.put, List.setIfInBounds_toArray, List.set_cons_zero, List.set_cons_succ]
  first
    | (refine Way.no 12 (by rfl) (by kernel_rfl) (by rfl) ?_; simp only [Act.put, List.setIfInBounds_toArray, List.set_cons_zero, List.set_cons_succ])
    | (refine' Way.yes 12 (by rfl) (by kernel_rfl) (by rfl) (fun wS hS => ?_) ?_
       rotate_left
       · have hS' := (SD_3.out _).1 hS
         obtain ⟨hb0, hb1, hn0, hn1, hB⟩ := hS'
         have c0_0 := hb0.cell 0
         have c1_0 := hb1.cell 0
         go_simp
         first
           | exact ⟨rfl, Below.refl _ _⟩
       simp only [Act.put, List.setIfInBounds_toArray, List.set_cons_zero, List.set_cons_succ])
  refine Way.done (by kernel_rfl) (fun wE hS => ?_)
  have hS' := (SD_3.out _).1 hS
  obtain ⟨hb0, hb1, hn0, hn1, hB⟩ := hS'
  have c0_0 := hb0.cell 0
  have c1_0 := hb1.cell 0
  clear hS
  clear c0_0 c1_0
  have c0_0 := hb0.cell 0
  have c1_0 := hb1.cell 0
  go_wp2_with fail
  exact bodyPost_ret (v := .tuple #[.agg #[.slice A n c], .agg #[.slice A1 n1 c1], .bool (((r : Nat) : Int) == 0)]) (by simp [results, Tryz.results47, go_sem, c0_0, c1_0]) rfl ⟨A, n, c, A1, n1, c1, by rw [HR.out], hn0, hn1, hB⟩
end Go.Proofs.YtnajondbdeclmaaGreatDoor

namespace Go.Proofs.YtnajondbdeclmaaGreatDoor
open Go.RowKit
attribute [local go_sem] SGives_value SGives_skip SGives_enter CGives_value CGives_skip CGives_enter MGives_value MGives_skip MGives_enter
set_option linter.unusedSimpArgs false
set_option linter.unusedVariables false

/-- The boxes that the closure sees: from, to, whether they count. -/
structure Ends (w : World) (g1 g2 g3 : Nat) (F T : Nat) (cl : Bool) : Prop where
  f : ∃ A n c, Blk w g1 75 #[.slice A n c] ∧ NatL w A n c F
  t : ∃ A n c, Blk w g2 75 #[.slice A n c] ∧ NatL w A n c T
  c : Blk w g3 4 #[.bool cl]
theorem Ends.below {w w' : World} {g1 g2 g3 F T : Nat} {cl : Bool} (h : Ends w g1 g2 g3 F T cl) (hb : Below w.heap.size w w') : Ends w' g1 g2 g3 F T cl := by
  obtain ⟨⟨A, n, c, h1, h2⟩, ⟨A', n', c', h3, h4⟩, h5⟩ := h
  exact ⟨⟨A, n, c, h1.st hb, h2.below hb⟩, ⟨A', n', c', h3.st hb, h4.below hb⟩, h5.st hb⟩

set_option maxRecDepth 100000 in
set_option maxHeartbeats 1000000 in
theorem inside_any (A : Option Addr) (n c x g1 g2 g3 F T : Nat) (cl : Bool) (w : World) (hE : Ends w g1 g2 g3 F T cl) (hl : NatL w A n c x) (hx : blen x ≤ 1000000) (hF : blen F ≤ 1000000) (hT : blen T ≤ 1000000) :
    Calls Tryz.prog 48 #[.agg #[.slice A n c], .pointer (some ⟨g1, 0, none⟩), .pointer (some ⟨g2, 0, none⟩), .pointer (some ⟨g3, 0, none⟩)] w fun e w' => e = .returned (.bool (insC (cmpI x F) (cmpI x T) cl)) ∧ Below w.heap.size w w' := by
  obtain ⟨⟨A1, n1, c1, hb1, hl1⟩, ⟨A2, n2, c2, hb2, hl2⟩, hb3⟩ := hE
  have HK := Lib.hid (Blk.new w 75 #[.slice A n c])
  have B1 := Lib.hid (hb1.alloc (.cells #[.slice A n c] 75))
  have B2 := Lib.hid (hb2.alloc (.cells #[.slice A n c] 75))
  have B3 := Lib.hid (hb3.alloc (.cells #[.slice A n c] 75))
  have hbn := below_new w (.cells #[.slice A n c] 75)
  have N0 := Lib.hid (hl.below hbn)
  have N1 := Lib.hid (hl1.below hbn)
  have N2 := Lib.hid (hl2.below hbn)
  have BB := Lib.hid hbn
  have K1 : Hid (∀ W, NatL W A n c x → NatL W A1 n1 c1 F → Calls Tryz.prog 49 #[.agg #[.slice A n c], .agg #[.slice A1 n1 c1]] W fun e w' => e = .returned (.int .i64 (cmpI x F)) ∧ Below W.heap.size W w') := Lib.hid (fun W h k => cmp_nat _ _ x F W ⟨A, n, c, rfl, h⟩ ⟨A1, n1, c1, rfl, k⟩ hx hF)
  have K2 : Hid (∀ W, NatL W A n c x → NatL W A2 n2 c2 T → Calls Tryz.prog 49 #[.agg #[.slice A n c], .agg #[.slice A2 n2 c2]] W fun e w' => e = .returned (.int .i64 (cmpI x T)) ∧ Below W.heap.size W w') := Lib.hid (fun W h k => cmp_nat _ _ x T W ⟨A, n, c, rfl, h⟩ ⟨A2, n2, c2, rfl, k⟩ hx hT)
  have ha := cmpI_range x F
  have hc := cmpI_range x T
  obtain ⟨R, hR⟩ : ∃ R, insC (cmpI x F) (cmpI x T) cl = R := ⟨_, rfl⟩
  have HR := Lib.hid hR
  rw [hR]
  clear hb1 hb2 hb3 hl hl1 hl2 hbn hR hx hF hT
  obtain ⟨W0, hW0⟩ : ∃ W0, w.alloc (.cells #[.slice A n c] 75) = W0 := ⟨_, rfl⟩
  rw [hW0] at HK B1 B2 B3 N0 N1 N2 BB
  go_enter Tryz.func48, Tryz.ntmps48
  go_upto_region 1 with fail
  clear hW0
  generalize cmpI x F = a at *
  generalize cmpI x T = c0 at *
  obtain ⟨S, SD⟩ : ∃ S : World → Prop, Go.RowKit.Hid (∀ w' : World, S w' ↔ (Blk w' w.heap.size 75 #[.slice A n c] ∧ Blk w' g1 75 #[.slice A1 n1 c1] ∧ Blk w' g2 75 #[.slice A2 n2 c2] ∧ Blk w' g3 4 #[.bool cl] ∧ NatL w' A n c x ∧ NatL w' A1 n1 c1 F ∧ NatL w' A2 n2 c2 T ∧ Below w.heap.size w w')) := ⟨_, Lib.hid (fun _ => Iff.rfl)⟩
  refine wp_region_sure (S := S) (by kernel_rfl) (by kernel_rfl) ((SD.out _).2 ⟨HK.out.drew, B1.out.drew, B2.out.drew, B3.out.drew, N0.out, N1.out, N2.out, BB.out.drew⟩) ?_
  repeat
    (first
      | (refine SureL.no (by rfl) ?_; simp only [Act.put, List.setIfInBounds_toArray, List.set_cons_zero, List.set_cons_succ])
      | (refine' SureL.yes (by rfl) (fun wS hS => ?_) ?_
         rotate_left
         · obtain ⟨h0, h1, h2, h3, k0, k1, k2, hB⟩ := (SD.out _).1 hS
           have e0 := h0.cell 0
           have e1 := h1.cell 0
           have e2 := h2.cell 0
           go_simp
           first
             | exact ⟨rfl, hS⟩
             | (with_reducible refine (K1.out _ k0 k1).mono ?_; rintro e w' ⟨rfl, hb⟩; exact ⟨rfl, (SD.out _).2 ⟨h0.st hb, h1.st hb, h2.st hb, h3.st hb, k0.below hb, k1.below hb, k2.below hb, keepb hB hb⟩⟩)
             | (with_reducible refine (K2.out _ k0 k2).mono ?_; rintro e w' ⟨rfl, hb⟩; exact ⟨rfl, (SD.out _).2 ⟨h0.st hb, h1.st hb, h2.st hb, h3.st hb, k0.below hb, k1.below hb, k2.below hb, keepb hB hb⟩⟩)
         simp only [Act.put, List.setIfInBounds_toArray, List.set_cons_zero, List.set_cons_succ]))
  refine SureL.nil ?_
  intro wE hE
  obtain ⟨h0, h1, h2, h3, k0, k1, k2, hB⟩ := (SD.out _).1 hE
  have BE := Lib.hid hB
  have e3 : wE.cell? ⟨g3, 0, none⟩ = some (.bool cl) := h3.cell 0
  clear h0 h1 h2 h3 k0 k1 k2 hB hE SD K1 K2 N0 N1 N2 B1 B2 B3 HK BB
  have fin : ∀ r : Bool, insC a c0 cl = r → R = r := fun r h => by rw [← HR.out]; exact h
  have FIN := Lib.hid fin
  clear fin HR
  rcases ha with rfl | rfl | rfl <;> rcases hc with rfl | rfl | rfl <;> cases cl
  all_goals
    have HV := Lib.hid (FIN.out _ rfl)
    go_wp2_with fail
    go_ret
    exact ⟨by rw [HV.out] <;> rfl, BE.out⟩

set_option maxRecDepth 100000 in
theorem drow_any (s : List UInt8) (w : World) (hs : s.length ≤ 1000000000) :
    Calls Tryz.prog 57 #[.string ⟨s.toArray⟩] w fun e w' => e = .returned (.tuple #[.string ⟨(noughtsR s).toArray⟩, .int .i64 ((s.length : Int) - 1075)]) ∧ w = w' := by
  have h48 : (48 : UInt8).toNat < 128 := by decide
  have hsz : (⟨s.toArray⟩ : ByteArray).size ≤ 9223372036854775807 := by simp [ByteArray.size]; omega
  have HR := Lib.hid (fun W => Tryz.strings_TrimRight_one ⟨s.toArray⟩ 48 h48 W hsz)
  have e : Lib.trimRightB s 48 = noughtsR s := rfl
  simp only [List.toList_toArray, e] at HR
  have k1 : IntKind.i64.wrap ((s.length : Int) - 1075) = (s.length : Int) - 1075 := IntWalk.i64_in _ (by omega)
  have hsI : (s.length : Int) ≤ 1000000000 := by omega
  clear e h48 hsz hs
  generalize noughtsR s = t at *
  go_enter Tryz.func57, Tryz.ntmps57
  go_wp2_with fail
  refine (HR.out _).mono ?_
  rintro e w1 ⟨rfl, rfl⟩
  go_wp2_with fail
  go_ret2
  exact ⟨rfl, rfl⟩
end Go.Proofs.YtnajondbdeclmaaGreatDoor

namespace Go.Proofs.YtnajondbdeclmaaGreatDoor
open Go.RowKit
attribute [local go_sem] SGives_value SGives_skip SGives_enter CGives_value CGives_skip CGives_enter MGives_value MGives_skip MGives_enter
set_option linter.unusedSimpArgs false
set_option linter.unusedVariables false

theorem two_ten (j : Nat) : 2 ^ (10 * j) ≤ 10 ^ (4 * j) := by rw [Nat.pow_mul, Nat.pow_mul]; exact Nat.pow_le_pow_left (by decide) j
theorem ten_two (j : Nat) : 10 ^ (3 * j) ≤ 2 ^ (10 * j) := by rw [Nat.pow_mul, Nat.pow_mul]; exact Nat.pow_le_pow_left (by decide) j
/-- Numbers of at most so many bits. -/
def bigE : Nat := 5400
theorem sv5_lt {m : Nat} {q : Int} (hm : m < 2 ^ 56) (hq : q ≤ 971) : sv5 m q < 2 ^ bigE := by
  obtain ⟨P, hP⟩ : ∃ P, P = 2047 := ⟨_, rfl⟩
  have h1 : U5 * m < 2 ^ (3 * unitE + 56) := blen_prod U5_lt hm
  have h2 : 2 ^ (q + unitE).toNat < 2 ^ P := Nat.pow_lt_pow_right (by decide) (by unfold unitE; omega)
  have h3 := blen_prod h1 h2
  have h4 : 3 * unitE + 56 + P ≤ bigE := by rw [hP]; decide
  exact Nat.lt_of_lt_of_le h3 (Nat.pow_le_pow_right (by decide) h4)
theorem sz_lt {b : Nat} (hb : b ≤ most) : sz b < 2 ^ bigE := by
  obtain ⟨h1, h2, h3⟩ := flt_bounds hb
  rw [← sv5_sz]
  exact sv5_lt (by omega) h3
theorem toN_lt {b : Nat} (hb : b ≤ most) : toN b < 2 ^ bigE := by
  obtain ⟨h1, h2, h3⟩ := flt_bounds hb
  rw [← sv5_to]
  exact sv5_lt (by omega) (by omega)
theorem fromN_le (b : Nat) : fromN b ≤ toN b := by
  unfold fromN toN
  split
  · exact Nat.zero_le _
  · refine Nat.mul_le_mul_right _ ?_
    have h1 := Fl_up b
    have h2 := Fl_up (b - 1)
    rw [show b - 1 + 1 = b by omega] at h2
    omega
def lenE : Nat := 2160
theorem lenD_le {x : Nat} (h : x < 2 ^ bigE) : lenD x ≤ lenE := by
  obtain ⟨J, hJ⟩ : ∃ J, J = 540 := ⟨_, rfl⟩
  have h1 := two_ten J
  have e1 : 10 * J = bigE := by rw [hJ]; rfl
  have e2 : 4 * J = lenE := by rw [hJ]; rfl
  rw [e1, e2] at h1
  exact dtext_len (Nat.lt_of_lt_of_le h h1) (by decide)
theorem pow_small {j : Nat} (h : j ≤ lenE) : 10 ^ j ≤ 2 ^ 7200 := by
  obtain ⟨P, hP⟩ : ∃ P, P = 7200 := ⟨_, rfl⟩
  rw [← hP]
  have h1 : 10 ^ j ≤ 10 ^ lenE := Nat.pow_le_pow_right (by decide) h
  obtain ⟨J, hJ⟩ : ∃ J, J = 720 := ⟨_, rfl⟩
  have h2 := ten_two J
  have e1 : 3 * J = lenE := by rw [hJ]; rfl
  have e2 : 10 * J = P := by rw [hJ, hP]
  rw [e1, e2] at h2
  exact Nat.le_trans h1 h2
theorem take_ext (s : List UInt8) (k : Nat) : (⟨s.toArray⟩ : ByteArray).extract 0 k = ⟨(s.take k).toArray⟩ := by
  apply ByteArray.ext
  rw [ByteArray.data_extract]
  simp
theorem lenD_pos (x : Nat) : 0 < lenD x := by
  unfold lenD
  rcases Nat.eq_zero_or_pos (dtext x).length with h | h
  · exact absurd (List.eq_nil_of_length_eq_zero h) (dtext_ne x)
  · exact h

theorem len_of_blen {x : Nat} (h : blen x ≤ 8192) : (dtext x).length ≤ 8192 := by
  obtain ⟨P, hP⟩ : ∃ P, P = 8192 := ⟨_, rfl⟩
  rw [← hP] at h ⊢
  refine dtext_len (Nat.lt_of_lt_of_le (blen_le.1 h) (Nat.pow_le_pow_left (by decide) P)) (by omega)
theorem subT {x y : Nat} (h : y ≤ x) {w w' : World} {e : Ending} (hs : NatS x y w e w') : NatT (x - y) w e w' := by
  unfold NatS at hs
  rw [if_neg (by omega)] at hs
  obtain ⟨A, n, c, h1, h2, _, h3⟩ := hs
  exact ⟨A, n, c, h1, h2, h3⟩
theorem bit0 (x : Nat) : bitV x 0 = (x % 2 == 1) := by
  unfold bitV
  rw [show (0 : Int).toNat = 0 from rfl, Nat.pow_zero, Nat.div_one]
  rcases Nat.mod_two_eq_zero_or_one x with h | h <;> rw [h] <;> rfl

set_option maxRecDepth 100000 in
set_option maxHeartbeats 8000000 in
theorem dshort_walk (n b m Sz Fr To L : Nat) (ins : Nat → Bool) (q : Int) (s R1 : List UInt8) (R2 : Int) (w : World)
    (HPT : Hid (∀ W, Calls Tryz.prog 45 #[.int .u64 n] W fun e w' => e = .returned (.tuple #[.int .u64 m, .int .i64 q, .bool true]) ∧ W = w'))
    (HSC : Hid (∀ W, Calls Tryz.prog 46 #[.int .u64 m, .int .i64 q] W (NatO Sz W)))
    (HEN : Hid (∀ W, Calls Tryz.prog 47 #[.int .u64 m, .int .i64 q] W fun e w' => ∃ A n c A' n' c', e = .returned (.tuple #[.agg #[.slice A n c], .agg #[.slice A' n' c'], .bool (b % 2 == 0)]) ∧ NatL w' A n c Fr ∧ NatL w' A' n' c' To ∧ Below W.heap.size W w'))
    (HTX : Hid (∀ W A n c x, NatL W A n c x → blen x ≤ 8192 → Calls Tryz.prog 50 #[.agg #[.slice A n c]] W fun e w' => e = .returned (.string ⟨(dtext x).toArray⟩) ∧ Below W.heap.size W w'))
    (HRW : Hid (∀ W (s : List UInt8), s.length ≤ 1000000000 → Calls Tryz.prog 57 #[.string ⟨s.toArray⟩] W fun e w' => e = .returned (.tuple #[.string ⟨(noughtsR s).toArray⟩, .int .i64 ((s.length : Int) - 1075)]) ∧ Below W.heap.size W w'))
    (HIN : Hid (∀ W A n c x g1 g2 g3, Ends W g1 g2 g3 Fr To (b % 2 == 0) → NatL W A n c x → blen x ≤ 8192 → Calls Tryz.prog 48 #[.agg #[.slice A n c], .pointer (some ⟨g1, 0, none⟩), .pointer (some ⟨g2, 0, none⟩), .pointer (some ⟨g3, 0, none⟩)] W fun e w' => e = .returned (.bool (ins x)) ∧ Below W.heap.size W w'))
    (HSR : Hid ((R1, R2) = rowN (seekG ins Sz L)))
    (HRD : Hid (∀ k, 1 ≤ k → k < L → blen (10 ^ (L - k)) ≤ 8192 ∧ blen (Sz / 10 ^ (L - k)) ≤ 8192 ∧ blen (Sz / 10 ^ (L - k) * 10 ^ (L - k)) ≤ 8192 ∧ blen (Sz / 10 ^ (L - k) * 10 ^ (L - k) + 10 ^ (L - k)) ≤ 8192 ∧
      Sz / 10 ^ (L - k) * 10 ^ (L - k) ≤ Sz ∧ Sz ≤ Sz / 10 ^ (L - k) * 10 ^ (L - k) + 10 ^ (L - k)))
    (HSB : Hid (blen Sz ≤ 8192)) (hsd : dtext Sz = s)
    (HHD : Hid (∀ k, k ≤ L → dval (s.take k) = Sz / 10 ^ (L - k))) (HDG : Hid (∀ c ∈ s, isD c = true))
    (HLS : Hid (s.length = L)) (hL0 : 0 < L) (hLE : L ≤ 2160) (t0 : ((m : Int) == 0) = false) (t0' : (m == 0) = false) :
    Calls Tryz.prog 13 #[.int .u64 n] w fun e w' => e = .returned (.tuple #[.string ⟨R1.toArray⟩, .int .i64 R2, .nilIface]) ∧ Below w.heap.size w w' := by
  go_enter Tryz.func13, Tryz.ntmps13
  go_wp2_with fail
  refine (HPT.out _).mono ?_
  rintro e w' ⟨rfl, rfl⟩
  go_wp2_with fail
  have BB : Hid (Below w.heap.size w w) := Lib.hid (Below.refl _ _)
  refine (HSC.out _).mono ?_
  rintro e w1 ⟨A0, n0, c0, rfl, hl, hb⟩
  have HW1 : Hid (w.heap.size ≤ w1.heap.size) := Lib.hid hb.size
  have N0 := Lib.hid (hl.below (below_new _ (.cells #[.slice A0 n0 c0] 75)))
  have hbk := keepb BB.out hb
  have BB := Lib.hid (hbk.alloc hbk.size (.cells #[.slice A0 n0 c0] 75))
  have B0 := Lib.hid (Blk.new w1 75 #[.slice A0 n0 c0])
  clear hbk hb hl
  have c0_0 := B0.out.cell 0
  go_wp2_with fail
  refine (HEN.out _).mono ?_
  rintro e w2 ⟨A1, n1, c1, A2, n2, c2, rfl, hl, hl1, hb⟩
  clear c0_0
  have B0 := Lib.hid (B0.out.st hb)
  have N0 := Lib.hid (N0.out.below hb)
  have N1 := Lib.hid hl
  have N2 := Lib.hid hl1
  have hbk := keepb BB.out hb
  have BB := Lib.hid hbk
  clear hbk hb hl hl1
  have c0_0 := B0.out.cell 0
  clear c0_0
  go_upto_region 8 with fail
  obtain ⟨g8, hg8⟩ : ∃ g, w1.heap.size = g := ⟨_, rfl⟩
  obtain ⟨g9, hg9⟩ : ∃ g, w2.heap.size = g := ⟨_, rfl⟩
  obtain ⟨g10, hg10⟩ : ∃ g, g9 + 1 = g := ⟨_, rfl⟩
  obtain ⟨g11, hg11⟩ : ∃ g, g10 + 1 = g := ⟨_, rfl⟩
  obtain ⟨W3, hW3⟩ : ∃ W, ((w2.alloc (.cells #[.slice A1 n1 c1] 75)).alloc (.cells #[.slice A2 n2 c2] 75)).alloc (.cells #[.bool (b % 2 == 0)] 4) = W := ⟨_, rfl⟩
  have hb3 : Below w2.heap.size w2 W3 := by rw [← hW3]; exact (((below_new _ _).alloc (by simp) _).alloc (by simp; omega) _)
  have B1 : Hid (Blk W3 g9 75 #[.slice A1 n1 c1]) := Lib.hid (by rw [← hW3, ← hg9]; exact ((Blk.new w2 _ _).alloc _).alloc _)
  have B2 : Hid (Blk W3 g10 75 #[.slice A2 n2 c2]) := Lib.hid (by rw [← hW3, ← hg10, ← hg9]; exact (Blk.new2 w2 _ _ _).alloc _)
  have B3 : Hid (Blk W3 g11 4 #[.bool (b % 2 == 0)]) := Lib.hid (by rw [← hW3, ← hg11, ← hg10, ← hg9]; exact Blk.new3 w2 _ _ _ _)
  have B0 : Hid (Blk W3 g8 75 #[.slice A0 n0 c0]) := Lib.hid (by rw [← hg8]; exact B0.out.st hb3)
  have N0 := Lib.hid (N0.out.below hb3)
  have N1 := Lib.hid (N1.out.below hb3)
  have N2 := Lib.hid (N2.out.below hb3)
  have BB := Lib.hid (keepb BB.out hb3)
  rw [hg8, hg9, hg10, hg11, hW3]
  have HG : Hid (w.heap.size ≤ g8) := Lib.hid (by rw [← hg8]; exact HW1.out)
  clear hg8 hg9 hg10 hg11 hW3 hb3
  have c0_0 := B0.out.cell 0
  have c1_0 := B1.out.cell 0
  have c2_0 := B2.out.cell 0
  have c3_0 := B3.out.cell 0
  go_wp2_with fail
  refine (HTX.out _ _ _ _ _ N0.out HSB.out).mono ?_
  rintro e w4 ⟨rfl, hb⟩
  clear c0_0 c1_0 c2_0 c3_0
  have B0 := Lib.hid (B0.out.st hb)
  have B1 := Lib.hid (B1.out.st hb)
  have B2 := Lib.hid (B2.out.st hb)
  have B3 := Lib.hid (B3.out.st hb)
  have N0 := Lib.hid (N0.out.below hb)
  have N1 := Lib.hid (N1.out.below hb)
  have N2 := Lib.hid (N2.out.below hb)
  have hbk := keepb BB.out hb
  have BB := Lib.hid hbk
  clear hbk hb 
  have c0_0 := B0.out.cell 0
  have c1_0 := B1.out.cell 0
  have c2_0 := B2.out.cell 0
  have c3_0 := B3.out.cell 0
  clear c0_0 c1_0 c2_0 c3_0
  have HSD := Lib.hid hsd
  rw [hsd]
  clear hsd
  obtain ⟨X, hX⟩ : ∃ X, seekG ins Sz L = X := ⟨_, rfl⟩
  rw [hX] at HSR
  have HX := Lib.hid (show firstG (pickG ins Sz L) Sz (L - 1) 1 = X from hX)
  clear hX
  go_wp2_with fail
  go_loopw [14] (fun s14 wr => ∃ k : Nat, s14 = .int .i64 k ∧ 1 ≤ k ∧ k ≤ L ∧ firstG (pickG ins Sz L) Sz (L - k) k = X ∧ Blk wr g8 75 #[.slice A0 n0 c0] ∧ Blk wr g9 75 #[.slice A1 n1 c1] ∧ Blk wr g10 75 #[.slice A2 n2 c2] ∧ Blk wr g11 4 #[.bool (b % 2 == 0)] ∧ NatL wr A0 n0 c0 (Sz) ∧ NatL wr A1 n1 c1 (Fr) ∧ NatL wr A2 n2 c2 (To) ∧ Below w.heap.size w wr) (fun s14 _ => L - (intOf s14).toNat)
  case atStart => exact ⟨1, rfl, Nat.le_refl _, hL0, HX.out, B0.out, B1.out, B2.out, B3.out, N0.out, N1.out, N2.out, BB.out⟩
  case round =>
    obtain ⟨k, rfl, hk1, hk2, hfk, h0, h1, h2, h3, l0, l1, l2, hB⟩ := hrel
    obtain ⟨wo, rfl⟩ : ∃ wo : World, wo = wr := ⟨_, rfl⟩
    have B0 := Lib.hid h0
    have B1 := Lib.hid h1
    have B2 := Lib.hid h2
    have B3 := Lib.hid h3
    have N0 := Lib.hid l0
    have N1 := Lib.hid l1
    have N2 := Lib.hid l2
    have BB := Lib.hid hB
    have HFK := Lib.hid hfk
    have HK1 := Lib.hid hk1
    clear h0 h1 h2 h3 l0 l1 l2 hB hfk
    have hsl : s.length = L := HLS.out
    by_cases hlt : k < L
    · have HLT := Lib.hid hlt
      obtain ⟨j, hj⟩ : ∃ j, L - k = j := ⟨_, rfl⟩
      have t1 : decide ((k : Int) < (s.length : Int)) = true := decide_eq_true (by omega)
      have t1' : decide (k < s.length) = true := decide_eq_true (by omega)
      have kj : (s.length : Int) - (k : Int) = (j : Int) := by omega
      have kj' : IntKind.i64.wrap ((s.length : Int) - (k : Int)) = (j : Int) := by rw [kj]; exact IntWalk.i64_in _ (by omega)
      have hks : (k : Int) ≤ (s.length : Int) := by omega
      have hsI : (s.length : Int) ≤ 2160 := by omega
      have hext := take_ext s k
      obtain ⟨r1, r2, r3, r4, r5, r6⟩ := HRD.out k hk1 hlt
      have hhd := HHD.out k (by omega)
      have hpk : pickG ins Sz L k = (if ins (Sz / 10 ^ (L - k) * 10 ^ (L - k)) && ins (Sz / 10 ^ (L - k) * 10 ^ (L - k) + 10 ^ (L - k)) then some (if upper Sz (Sz / 10 ^ (L - k) * 10 ^ (L - k)) (Sz / 10 ^ (L - k) * 10 ^ (L - k) + 10 ^ (L - k)) (Sz / 10 ^ (L - k)) then Sz / 10 ^ (L - k) * 10 ^ (L - k) + 10 ^ (L - k) else Sz / 10 ^ (L - k) * 10 ^ (L - k)) else if ins (Sz / 10 ^ (L - k) * 10 ^ (L - k) + 10 ^ (L - k)) then some (Sz / 10 ^ (L - k) * 10 ^ (L - k) + 10 ^ (L - k)) else if ins (Sz / 10 ^ (L - k) * 10 ^ (L - k)) then some (Sz / 10 ^ (L - k) * 10 ^ (L - k)) else none) := rfl
      have hfs := firstG_succ (pickG ins Sz L) Sz (L - (k + 1)) k
      rw [show L - (k + 1) + 1 = L - k by omega, HFK.out] at hfs
      have KPW : Hid (∀ W, Calls Tryz.prog 51 #[.int .u64 10, .int .i64 (j : Int)] W (NatT (10 ^ j) W)) := Lib.hid (fun W => (power_nat 10 j W (by decide) (by unfold W64; decide) (by omega) (by omega)).mono fun e w' hh => hh.t (by rw [← hj]; exact r1))
      rw [hj] at r1 r2 r3 r4 r5 r6 hhd hpk
      have HNX := Lib.hid (show L - (k + 1) < L - k by omega)
      obtain ⟨p, hp⟩ : ∃ p, 10 ^ j = p := ⟨_, rfl⟩
      rw [hp] at KPW r1 r2 r3 r4 r5 r6 hhd hpk
      obtain ⟨hd, hhd'⟩ : ∃ hd, Sz / p = hd := ⟨_, rfl⟩
      rw [hhd'] at r2 r3 r4 r5 r6 hhd hpk
      obtain ⟨lo, hlo⟩ : ∃ lo, hd * p = lo := ⟨_, rfl⟩
      have KPA : Hid (∀ W, Calls Tryz.prog 52 #[.string ⟨(s.take k).toArray⟩] W (NatT hd W)) := Lib.hid (fun W => (parse_ok (s.take k) W (by rw [List.length_take]; omega) (by intro h; have := congrArg List.length h; rw [List.length_take, List.length_nil] at this; omega) (fun c hc => HDG.out c (List.mem_of_mem_take hc))).mono fun e w' hh => by rw [hhd] at hh; exact hh.t r2)
      have KMU : Hid (∀ W A n c A' n' c', NatL W A n c hd → NatL W A' n' c' p → Calls Tryz.prog 53 #[.agg #[.slice A n c], .agg #[.slice A' n' c']] W (NatT lo W)) := Lib.hid (fun W A n c A' n' c' h k => (mul_nat _ _ hd p W ⟨A, n, c, rfl, h⟩ ⟨A', n', c', rfl, k⟩ (by omega) (by omega)).mono fun e w' hh => by rw [hlo] at hh; exact hh.t (by rw [← hlo]; exact r3))
      rw [hlo] at r3 r4 r5 r6 hpk
      obtain ⟨hi, hhi⟩ : ∃ hi, lo + p = hi := ⟨_, rfl⟩
      have KAD : Hid (∀ W A n c A' n' c', NatL W A n c lo → NatL W A' n' c' p → Calls Tryz.prog 54 #[.agg #[.slice A n c], .agg #[.slice A' n' c']] W (NatT hi W)) := Lib.hid (fun W A n c A' n' c' h k => (add_nat _ _ lo p W ⟨A, n, c, rfl, h⟩ ⟨A', n', c', rfl, k⟩ (by omega) (by omega)).mono fun e w' hh => by rw [hhi] at hh; exact hh.t (by rw [← hhi]; exact r4))
      rw [hhi] at r4 r6 hpk
      have KS1 : Hid (∀ W A n c A' n' c', NatL W A n c (Sz) → NatL W A' n' c' lo → Calls Tryz.prog 55 #[.agg #[.slice A n c], .agg #[.slice A' n' c']] W (NatT (Sz - lo) W)) := Lib.hid (fun W A n c A' n' c' h k => (sub_nat _ _ (Sz) lo W ⟨A, n, c, rfl, h⟩ ⟨A', n', c', rfl, k⟩ (by have := HSB.out; omega) (by omega)).mono fun e w' hh => subT r5 hh)
      have KS2 : Hid (∀ W A n c A' n' c', NatL W A n c hi → NatL W A' n' c' (Sz) → Calls Tryz.prog 55 #[.agg #[.slice A n c], .agg #[.slice A' n' c']] W (NatT (hi - Sz) W)) := Lib.hid (fun W A n c A' n' c' h k => (sub_nat _ _ hi (Sz) W ⟨A, n, c, rfl, h⟩ ⟨A', n', c', rfl, k⟩ (by omega) (by have := HSB.out; omega)).mono fun e w' hh => subT r6 hh)
      have KCM : Hid (∀ W A n c A' n' c', NatL W A n c (Sz - lo) → NatL W A' n' c' (hi - Sz) → Calls Tryz.prog 49 #[.agg #[.slice A n c], .agg #[.slice A' n' c']] W fun e w' => e = .returned (.int .i64 (cmpI (Sz - lo) (hi - Sz))) ∧ Below W.heap.size W w') := Lib.hid (fun W A n c A' n' c' h k => cmp_nat _ _ _ _ W ⟨A, n, c, rfl, h⟩ ⟨A', n', c', rfl, k⟩ (by have := blen_mono (Nat.sub_le (Sz) lo); have := HSB.out; omega) (by have := blen_mono (Nat.sub_le hi (Sz)); omega))
      have KBI : Hid (∀ W A n c, NatL W A n c hd → Calls Tryz.prog 56 #[.agg #[.slice A n c], .int .i64 0] W fun e w' => e = .returned (.bool (hd % 2 == 1)) ∧ Below W.heap.size W w') := Lib.hid (fun W A n c h => by have := bit_nat _ hd 0 W ⟨A, n, c, rfl, h⟩ (by decide); rw [bit0] at this; exact this)
      have HBL := Lib.hid r3
      have HBH := Lib.hid r4
      obtain ⟨dn, hdn⟩ : ∃ dn, ins lo = dn := ⟨_, rfl⟩
      obtain ⟨up, hup⟩ : ∃ up, ins hi = up := ⟨_, rfl⟩
      have KIL : Hid (∀ W A n c, Ends W g9 g10 g11 Fr To (b % 2 == 0) → NatL W A n c lo → Calls Tryz.prog 48 #[.agg #[.slice A n c], .pointer (some ⟨g9, 0, none⟩), .pointer (some ⟨g10, 0, none⟩), .pointer (some ⟨g11, 0, none⟩)] W fun e w' => e = .returned (.bool dn) ∧ Below W.heap.size W w') := Lib.hid (fun W A n c hE hl => by rw [← hdn]; exact HIN.out W A n c lo g9 g10 g11 hE hl r3)
      have KIH : Hid (∀ W A n c, Ends W g9 g10 g11 Fr To (b % 2 == 0) → NatL W A n c hi → Calls Tryz.prog 48 #[.agg #[.slice A n c], .pointer (some ⟨g9, 0, none⟩), .pointer (some ⟨g10, 0, none⟩), .pointer (some ⟨g11, 0, none⟩)] W fun e w' => e = .returned (.bool up) ∧ Below W.heap.size W w') := Lib.hid (fun W A n c hE hl => by rw [← hup]; exact HIN.out W A n c hi g9 g10 g11 hE hl r4)
      rw [hdn, hup] at hpk
      clear hdn hup
      rw [hpk] at hfs
      have HFS := Lib.hid hfs
      have HCT : Hid (upper (Sz) lo hi hd = (decide (0 < cmpI (Sz - lo) (hi - Sz)) || (cmpI (Sz - lo) (hi - Sz) == 0 && hd % 2 == 1))) := Lib.hid (by
        unfold upper
        generalize Sz - lo = x
        generalize hi - Sz = y
        congr 1
        · rcases cmpI_tri x y with ⟨h, e⟩ | ⟨h, e⟩ | ⟨h, e⟩ <;> rw [e] <;> simp <;> omega
        · congr 1
          rcases cmpI_tri x y with ⟨h, e⟩ | ⟨h, e⟩ | ⟨h, e⟩ <;> rw [e, Bool.eq_iff_iff] <;> simp <;> omega)
      have hcr := cmpI_range (Sz - lo) (hi - Sz)
      clear r1 r2 r3 r4 r5 r6 hhd hpk hfs hj hp hhd' hlo hhi hlt hk2 hsl
      generalize s.take k = tk at *
      have c0_0 := B0.out.cell 0
      have c1_0 := B1.out.cell 0
      have c2_0 := B2.out.cell 0
      have c3_0 := B3.out.cell 0
      go_wp2_with fail
      refine (KPW.out _).mono ?_
      rintro e w5 ⟨A3, n3, c3, rfl, hl, hb⟩
      clear c0_0 c1_0 c2_0 c3_0
      have B0 := Lib.hid ((B0.out.st hb).alloc (.cells #[.slice A3 n3 c3] 75))
      have B1 := Lib.hid ((B1.out.st hb).alloc (.cells #[.slice A3 n3 c3] 75))
      have B2 := Lib.hid ((B2.out.st hb).alloc (.cells #[.slice A3 n3 c3] 75))
      have B3 := Lib.hid ((B3.out.st hb).alloc (.cells #[.slice A3 n3 c3] 75))
      have N0 := Lib.hid ((N0.out.below hb).below (below_new _ (.cells #[.slice A3 n3 c3] 75)))
      have N1 := Lib.hid ((N1.out.below hb).below (below_new _ (.cells #[.slice A3 n3 c3] 75)))
      have N2 := Lib.hid ((N2.out.below hb).below (below_new _ (.cells #[.slice A3 n3 c3] 75)))
      have N3 := Lib.hid (hl.below (below_new _ (.cells #[.slice A3 n3 c3] 75)))
      have hbk := keepb BB.out hb
      have BB := Lib.hid (hbk.alloc hbk.size (.cells #[.slice A3 n3 c3] 75))
      have B4 := Lib.hid (Blk.new w5 75 #[.slice A3 n3 c3])
      clear hbk hb hl
      have c0_0 := B0.out.cell 0
      have c1_0 := B1.out.cell 0
      have c2_0 := B2.out.cell 0
      have c3_0 := B3.out.cell 0
      have c4_0 := B4.out.cell 0
      go_wp2_with fail
      refine (KPA.out _).mono ?_
      rintro e w6 ⟨A4, n4, c4, rfl, hl, hb⟩
      clear c0_0 c1_0 c2_0 c3_0 c4_0
      have B0 := Lib.hid ((B0.out.st hb).alloc (.cells #[.slice A4 n4 c4] 75))
      have B1 := Lib.hid ((B1.out.st hb).alloc (.cells #[.slice A4 n4 c4] 75))
      have B2 := Lib.hid ((B2.out.st hb).alloc (.cells #[.slice A4 n4 c4] 75))
      have B3 := Lib.hid ((B3.out.st hb).alloc (.cells #[.slice A4 n4 c4] 75))
      have B4 := Lib.hid ((B4.out.st hb).alloc (.cells #[.slice A4 n4 c4] 75))
      have N0 := Lib.hid ((N0.out.below hb).below (below_new _ (.cells #[.slice A4 n4 c4] 75)))
      have N1 := Lib.hid ((N1.out.below hb).below (below_new _ (.cells #[.slice A4 n4 c4] 75)))
      have N2 := Lib.hid ((N2.out.below hb).below (below_new _ (.cells #[.slice A4 n4 c4] 75)))
      have N3 := Lib.hid ((N3.out.below hb).below (below_new _ (.cells #[.slice A4 n4 c4] 75)))
      have N4 := Lib.hid (hl.below (below_new _ (.cells #[.slice A4 n4 c4] 75)))
      have hbk := keepb BB.out hb
      have BB := Lib.hid (hbk.alloc hbk.size (.cells #[.slice A4 n4 c4] 75))
      have B5 := Lib.hid (Blk.new w6 75 #[.slice A4 n4 c4])
      clear hbk hb hl
      have c0_0 := B0.out.cell 0
      have c1_0 := B1.out.cell 0
      have c2_0 := B2.out.cell 0
      have c3_0 := B3.out.cell 0
      have c4_0 := B4.out.cell 0
      have c5_0 := B5.out.cell 0
      go_wp2_with fail
      refine (KMU.out _ _ _ _ _ _ _ N4.out N3.out).mono ?_
      rintro e w7 ⟨A5, n5, c5, rfl, hl, hb⟩
      have HW7 : Hid (w.heap.size ≤ w7.heap.size) := Lib.hid (Nat.le_trans BB.out.size hb.size)
      clear c0_0 c1_0 c2_0 c3_0 c4_0 c5_0
      have B0 := Lib.hid ((B0.out.st hb).alloc (.cells #[.slice A5 n5 c5] 75))
      have B1 := Lib.hid ((B1.out.st hb).alloc (.cells #[.slice A5 n5 c5] 75))
      have B2 := Lib.hid ((B2.out.st hb).alloc (.cells #[.slice A5 n5 c5] 75))
      have B3 := Lib.hid ((B3.out.st hb).alloc (.cells #[.slice A5 n5 c5] 75))
      have B4 := Lib.hid ((B4.out.st hb).alloc (.cells #[.slice A5 n5 c5] 75))
      have B5 := Lib.hid ((B5.out.st hb).alloc (.cells #[.slice A5 n5 c5] 75))
      have N0 := Lib.hid ((N0.out.below hb).below (below_new _ (.cells #[.slice A5 n5 c5] 75)))
      have N1 := Lib.hid ((N1.out.below hb).below (below_new _ (.cells #[.slice A5 n5 c5] 75)))
      have N2 := Lib.hid ((N2.out.below hb).below (below_new _ (.cells #[.slice A5 n5 c5] 75)))
      have N3 := Lib.hid ((N3.out.below hb).below (below_new _ (.cells #[.slice A5 n5 c5] 75)))
      have N4 := Lib.hid ((N4.out.below hb).below (below_new _ (.cells #[.slice A5 n5 c5] 75)))
      have N5 := Lib.hid (hl.below (below_new _ (.cells #[.slice A5 n5 c5] 75)))
      have hbk := keepb BB.out hb
      have BB := Lib.hid (hbk.alloc hbk.size (.cells #[.slice A5 n5 c5] 75))
      have B6 := Lib.hid (Blk.new w7 75 #[.slice A5 n5 c5])
      clear hbk hb hl
      have c0_0 := B0.out.cell 0
      have c1_0 := B1.out.cell 0
      have c2_0 := B2.out.cell 0
      have c3_0 := B3.out.cell 0
      have c4_0 := B4.out.cell 0
      have c5_0 := B5.out.cell 0
      have c6_0 := B6.out.cell 0
      go_wp2_with fail
      refine (KAD.out _ _ _ _ _ _ _ N5.out N3.out).mono ?_
      rintro e w8 ⟨A6, n6, c6, rfl, hl, hb⟩
      clear c0_0 c1_0 c2_0 c3_0 c4_0 c5_0 c6_0
      have B0 := Lib.hid ((B0.out.st hb).alloc (.cells #[.slice A6 n6 c6] 75))
      have B1 := Lib.hid ((B1.out.st hb).alloc (.cells #[.slice A6 n6 c6] 75))
      have B2 := Lib.hid ((B2.out.st hb).alloc (.cells #[.slice A6 n6 c6] 75))
      have B3 := Lib.hid ((B3.out.st hb).alloc (.cells #[.slice A6 n6 c6] 75))
      have B4 := Lib.hid ((B4.out.st hb).alloc (.cells #[.slice A6 n6 c6] 75))
      have B5 := Lib.hid ((B5.out.st hb).alloc (.cells #[.slice A6 n6 c6] 75))
      have B6 := Lib.hid ((B6.out.st hb).alloc (.cells #[.slice A6 n6 c6] 75))
      have N0 := Lib.hid ((N0.out.below hb).below (below_new _ (.cells #[.slice A6 n6 c6] 75)))
      have N1 := Lib.hid ((N1.out.below hb).below (below_new _ (.cells #[.slice A6 n6 c6] 75)))
      have N2 := Lib.hid ((N2.out.below hb).below (below_new _ (.cells #[.slice A6 n6 c6] 75)))
      have N3 := Lib.hid ((N3.out.below hb).below (below_new _ (.cells #[.slice A6 n6 c6] 75)))
      have N4 := Lib.hid ((N4.out.below hb).below (below_new _ (.cells #[.slice A6 n6 c6] 75)))
      have N5 := Lib.hid ((N5.out.below hb).below (below_new _ (.cells #[.slice A6 n6 c6] 75)))
      have N6 := Lib.hid (hl.below (below_new _ (.cells #[.slice A6 n6 c6] 75)))
      have hbk := keepb BB.out hb
      have BB := Lib.hid (hbk.alloc hbk.size (.cells #[.slice A6 n6 c6] 75))
      have B7 := Lib.hid (Blk.new w8 75 #[.slice A6 n6 c6])
      clear hbk hb hl
      have c0_0 := B0.out.cell 0
      have c1_0 := B1.out.cell 0
      have c2_0 := B2.out.cell 0
      have c3_0 := B3.out.cell 0
      have c4_0 := B4.out.cell 0
      have c5_0 := B5.out.cell 0
      have c6_0 := B6.out.cell 0
      have c7_0 := B7.out.cell 0
      go_upto_region 17 with fail
      clear c0_0 c1_0 c2_0 c3_0 c4_0 c5_0 c6_0 c7_0
      obtain ⟨S, SD⟩ : ∃ S : World → Prop, Go.RowKit.Hid (∀ w' : World, S w' ↔ (Blk w' g8 75 #[.slice A0 n0 c0] ∧ Blk w' g9 75 #[.slice A1 n1 c1] ∧ Blk w' g10 75 #[.slice A2 n2 c2] ∧ Blk w' g11 4 #[.bool (b % 2 == 0)] ∧ Blk w' w5.heap.size 75 #[.slice A3 n3 c3] ∧ Blk w' w6.heap.size 75 #[.slice A4 n4 c4] ∧ Blk w' w7.heap.size 75 #[.slice A5 n5 c5] ∧ Blk w' w8.heap.size 75 #[.slice A6 n6 c6] ∧ NatL w' A0 n0 c0 (Sz) ∧ NatL w' A1 n1 c1 (Fr) ∧ NatL w' A2 n2 c2 (To) ∧ NatL w' A3 n3 c3 (p) ∧ NatL w' A4 n4 c4 (hd) ∧ NatL w' A5 n5 c5 (lo) ∧ NatL w' A6 n6 c6 (hi) ∧ Below w.heap.size w w')) := ⟨_, Lib.hid (fun _ => Iff.rfl)⟩
      refine wp_region_sure (S := S) (by kernel_rfl) (by kernel_rfl) ((SD.out _).2 (⟨B0.out.drew, B1.out.drew, B2.out.drew, B3.out.drew, B4.out.drew, B5.out.drew, B6.out.drew, B7.out.drew, N0.out, N1.out, N2.out, N3.out, N4.out, N5.out, N6.out, BB.out.drew⟩)) ?_
      repeat
        (first
          | (refine SureL.no (by rfl) ?_; simp only [Act.put, List.setIfInBounds_toArray, List.set_cons_zero, List.set_cons_succ])
          | (refine' SureL.yes (by rfl) (fun wS hS => ?_) ?_
             rotate_left
             · have hS' := (SD.out _).1 hS
               obtain ⟨h0, h1, h2, h3, h4, h5, h6, h7, k0, k1, k2, k3, k4, k5, k6, hB⟩ := hS'
               have e0_0 := h0.cell 0
               have e1_0 := h1.cell 0
               have e2_0 := h2.cell 0
               have e3_0 := h3.cell 0
               have e4_0 := h4.cell 0
               have e5_0 := h5.cell 0
               have e6_0 := h6.cell 0
               have e7_0 := h7.cell 0
               go_simp
               first
                 | exact ⟨rfl, hS⟩
                 | (with_reducible refine (KIL.out _ _ _ _ ⟨⟨_, _, _, h1, k1⟩, ⟨_, _, _, h2, k2⟩, h3⟩ k5).mono ?_; rintro e w' ⟨rfl, hb⟩; exact ⟨rfl, (SD.out _).2 ⟨h0.st hb, h1.st hb, h2.st hb, h3.st hb, h4.st hb, h5.st hb, h6.st hb, h7.st hb, k0.below hb, k1.below hb, k2.below hb, k3.below hb, k4.below hb, k5.below hb, k6.below hb, keepb hB hb⟩⟩)
                 | (with_reducible refine (KIH.out _ _ _ _ ⟨⟨_, _, _, h1, k1⟩, ⟨_, _, _, h2, k2⟩, h3⟩ k6).mono ?_; rintro e w' ⟨rfl, hb⟩; exact ⟨rfl, (SD.out _).2 ⟨h0.st hb, h1.st hb, h2.st hb, h3.st hb, h4.st hb, h5.st hb, h6.st hb, h7.st hb, k0.below hb, k1.below hb, k2.below hb, k3.below hb, k4.below hb, k5.below hb, k6.below hb, keepb hB hb⟩⟩)
             simp only [Act.put, List.setIfInBounds_toArray, List.set_cons_zero, List.set_cons_succ]))
      refine SureL.nil ?_
      intro wE hE
      obtain ⟨h0, h1, h2, h3, h4, h5, h6, h7, k0, k1, k2, k3, k4, k5, k6, hB⟩ := (SD.out _).1 hE
      have B0 := Lib.hid h0
      have B1 := Lib.hid h1
      have B2 := Lib.hid h2
      have B3 := Lib.hid h3
      have B4 := Lib.hid h4
      have B5 := Lib.hid h5
      have B6 := Lib.hid h6
      have B7 := Lib.hid h7
      have N0 := Lib.hid k0
      have N1 := Lib.hid k1
      have N2 := Lib.hid k2
      have N3 := Lib.hid k3
      have N4 := Lib.hid k4
      have N5 := Lib.hid k5
      have N6 := Lib.hid k6
      have BB := Lib.hid hB
      clear hE hB h0 h1 h2 h3 h4 h5 h6 h7 k0 k1 k2 k3 k4 k5 k6 S SD
      have c0_0 := B0.out.cell 0
      have c1_0 := B1.out.cell 0
      have c2_0 := B2.out.cell 0
      have c3_0 := B3.out.cell 0
      have c4_0 := B4.out.cell 0
      have c5_0 := B5.out.cell 0
      have c6_0 := B6.out.cell 0
      have c7_0 := B7.out.cell 0
      have f6 : wE.frozen? ⟨w7.heap.size, 0, none⟩ = false := B6.out.frozen 0
      cases up with
      | false =>
        cases dn with
        | false =>
          have HV : Hid (firstG (pickG ins Sz L) Sz (L - (k + 1)) (k + 1) = X) := Lib.hid HFS.out.symm
          go_wp2_with fail
          go_roundw
          case rel => exact ⟨k + 1, by go_num, by omega, HLT.out, HV.out, B0.out, B1.out, B2.out, B3.out, N0.out, N1.out, N2.out, BB.out⟩
          case measure => have := HLT.out; simp [intOf]; omega
        | true =>
          have HV : Hid (X = lo) := Lib.hid HFS.out
          go_wp2_with fail
          refine (HTX.out _ _ _ _ _ N5.out HBL.out).mono ?_
          rintro e wy ⟨rfl, hb⟩
          have BY := Lib.hid (keepb BB.out hb)
          have HDL := Lib.hid (len_of_blen HBL.out)
          have HRR : Hid (R1 = noughtsR (dtext lo) ∧ R2 = ((dtext lo).length : Int) - 1075) := Lib.hid (by have h := HSR.out; rw [HV.out] at h; exact ⟨congrArg Prod.fst h, congrArg Prod.snd h⟩)
          clear hb c0_0 c1_0 c2_0 c3_0 c4_0 c5_0 c6_0 c7_0 f6
          go_wp2_with fail
          refine (HRW.out _ _ (by have := HDL.out; omega)).mono ?_
          rintro e wz ⟨rfl, hb⟩
          have BZ := Lib.hid (keepb BY.out hb)
          clear hb
          go_wp2_with fail
          go_ret3
          exact ⟨by rw [HRR.out.1, HRR.out.2] <;> rfl, BZ.out⟩
      | true =>
        cases dn with
        | false =>
          have HV : Hid (X = hi) := Lib.hid HFS.out
          go_wp2_with fail
          refine (HTX.out _ _ _ _ _ (N6.out.set B6.out (by decide) _) HBH.out).mono ?_
          rintro e wy ⟨rfl, hb⟩
          have BY := Lib.hid (keepb (BB.out.setCell (p := ⟨w7.heap.size, 0, none⟩) HW7.out _) hb)
          have HDL := Lib.hid (len_of_blen HBH.out)
          have HRR : Hid (R1 = noughtsR (dtext hi) ∧ R2 = ((dtext hi).length : Int) - 1075) := Lib.hid (by have h := HSR.out; rw [HV.out] at h; exact ⟨congrArg Prod.fst h, congrArg Prod.snd h⟩)
          clear hb c0_0 c1_0 c2_0 c3_0 c4_0 c5_0 c6_0 c7_0 f6
          go_wp2_with fail
          refine (HRW.out _ _ (by have := HDL.out; omega)).mono ?_
          rintro e wz ⟨rfl, hb⟩
          have BZ := Lib.hid (keepb BY.out hb)
          clear hb
          go_wp2_with fail
          go_ret3
          exact ⟨by rw [HRR.out.1, HRR.out.2] <;> rfl, BZ.out⟩
        | true =>
          have HV0 : Hid (X = if upper Sz lo hi hd then hi else lo) := Lib.hid HFS.out
          go_wp2_with fail
          refine (KS1.out _ _ _ _ _ _ _ N0.out N5.out).mono ?_
          rintro e w9 ⟨A7, n7, c7, rfl, hl, hb⟩
          clear c0_0 c1_0 c2_0 c3_0 c4_0 c5_0 c6_0 c7_0
          have B0 := Lib.hid ((B0.out.st hb).alloc (.cells #[.slice A7 n7 c7] 75))
          have B1 := Lib.hid ((B1.out.st hb).alloc (.cells #[.slice A7 n7 c7] 75))
          have B2 := Lib.hid ((B2.out.st hb).alloc (.cells #[.slice A7 n7 c7] 75))
          have B3 := Lib.hid ((B3.out.st hb).alloc (.cells #[.slice A7 n7 c7] 75))
          have B4 := Lib.hid ((B4.out.st hb).alloc (.cells #[.slice A7 n7 c7] 75))
          have B5 := Lib.hid ((B5.out.st hb).alloc (.cells #[.slice A7 n7 c7] 75))
          have B6 := Lib.hid ((B6.out.st hb).alloc (.cells #[.slice A7 n7 c7] 75))
          have B7 := Lib.hid ((B7.out.st hb).alloc (.cells #[.slice A7 n7 c7] 75))
          have N0 := Lib.hid ((N0.out.below hb).below (below_new _ (.cells #[.slice A7 n7 c7] 75)))
          have N1 := Lib.hid ((N1.out.below hb).below (below_new _ (.cells #[.slice A7 n7 c7] 75)))
          have N2 := Lib.hid ((N2.out.below hb).below (below_new _ (.cells #[.slice A7 n7 c7] 75)))
          have N3 := Lib.hid ((N3.out.below hb).below (below_new _ (.cells #[.slice A7 n7 c7] 75)))
          have N4 := Lib.hid ((N4.out.below hb).below (below_new _ (.cells #[.slice A7 n7 c7] 75)))
          have N5 := Lib.hid ((N5.out.below hb).below (below_new _ (.cells #[.slice A7 n7 c7] 75)))
          have N6 := Lib.hid ((N6.out.below hb).below (below_new _ (.cells #[.slice A7 n7 c7] 75)))
          have N7 := Lib.hid (hl.below (below_new _ (.cells #[.slice A7 n7 c7] 75)))
          have hbk := keepb BB.out hb
          have BB := Lib.hid (hbk.alloc hbk.size (.cells #[.slice A7 n7 c7] 75))
          have B8 := Lib.hid (Blk.new w9 75 #[.slice A7 n7 c7])
          clear hbk hb hl
          have c0_0 := B0.out.cell 0
          have c1_0 := B1.out.cell 0
          have c2_0 := B2.out.cell 0
          have c3_0 := B3.out.cell 0
          have c4_0 := B4.out.cell 0
          have c5_0 := B5.out.cell 0
          have c6_0 := B6.out.cell 0
          have c7_0 := B7.out.cell 0
          have c8_0 := B8.out.cell 0
          go_wp2_with fail
          refine (KS2.out _ _ _ _ _ _ _ N6.out N0.out).mono ?_
          rintro e w10 ⟨A8, n8, c8, rfl, hl, hb⟩
          clear c0_0 c1_0 c2_0 c3_0 c4_0 c5_0 c6_0 c7_0 c8_0
          have B0 := Lib.hid ((B0.out.st hb).alloc (.cells #[.slice A8 n8 c8] 75))
          have B1 := Lib.hid ((B1.out.st hb).alloc (.cells #[.slice A8 n8 c8] 75))
          have B2 := Lib.hid ((B2.out.st hb).alloc (.cells #[.slice A8 n8 c8] 75))
          have B3 := Lib.hid ((B3.out.st hb).alloc (.cells #[.slice A8 n8 c8] 75))
          have B4 := Lib.hid ((B4.out.st hb).alloc (.cells #[.slice A8 n8 c8] 75))
          have B5 := Lib.hid ((B5.out.st hb).alloc (.cells #[.slice A8 n8 c8] 75))
          have B6 := Lib.hid ((B6.out.st hb).alloc (.cells #[.slice A8 n8 c8] 75))
          have B7 := Lib.hid ((B7.out.st hb).alloc (.cells #[.slice A8 n8 c8] 75))
          have B8 := Lib.hid ((B8.out.st hb).alloc (.cells #[.slice A8 n8 c8] 75))
          have N0 := Lib.hid ((N0.out.below hb).below (below_new _ (.cells #[.slice A8 n8 c8] 75)))
          have N1 := Lib.hid ((N1.out.below hb).below (below_new _ (.cells #[.slice A8 n8 c8] 75)))
          have N2 := Lib.hid ((N2.out.below hb).below (below_new _ (.cells #[.slice A8 n8 c8] 75)))
          have N3 := Lib.hid ((N3.out.below hb).below (below_new _ (.cells #[.slice A8 n8 c8] 75)))
          have N4 := Lib.hid ((N4.out.below hb).below (below_new _ (.cells #[.slice A8 n8 c8] 75)))
          have N5 := Lib.hid ((N5.out.below hb).below (below_new _ (.cells #[.slice A8 n8 c8] 75)))
          have N6 := Lib.hid ((N6.out.below hb).below (below_new _ (.cells #[.slice A8 n8 c8] 75)))
          have N7 := Lib.hid ((N7.out.below hb).below (below_new _ (.cells #[.slice A8 n8 c8] 75)))
          have N8 := Lib.hid (hl.below (below_new _ (.cells #[.slice A8 n8 c8] 75)))
          have hbk := keepb BB.out hb
          have BB := Lib.hid (hbk.alloc hbk.size (.cells #[.slice A8 n8 c8] 75))
          have B9 := Lib.hid (Blk.new w10 75 #[.slice A8 n8 c8])
          clear hbk hb hl
          have c0_0 := B0.out.cell 0
          have c1_0 := B1.out.cell 0
          have c2_0 := B2.out.cell 0
          have c3_0 := B3.out.cell 0
          have c4_0 := B4.out.cell 0
          have c5_0 := B5.out.cell 0
          have c6_0 := B6.out.cell 0
          have c7_0 := B7.out.cell 0
          have c8_0 := B8.out.cell 0
          have c9_0 := B9.out.cell 0
          go_wp2_with fail
          refine (KCM.out _ _ _ _ _ _ _ N7.out N8.out).mono ?_
          rintro e w11 ⟨rfl, hb⟩
          clear c0_0 c1_0 c2_0 c3_0 c4_0 c5_0 c6_0 c7_0 c8_0 c9_0
          have B0 := Lib.hid (B0.out.st hb)
          have B1 := Lib.hid (B1.out.st hb)
          have B2 := Lib.hid (B2.out.st hb)
          have B3 := Lib.hid (B3.out.st hb)
          have B4 := Lib.hid (B4.out.st hb)
          have B5 := Lib.hid (B5.out.st hb)
          have B6 := Lib.hid (B6.out.st hb)
          have B7 := Lib.hid (B7.out.st hb)
          have B8 := Lib.hid (B8.out.st hb)
          have B9 := Lib.hid (B9.out.st hb)
          have N0 := Lib.hid (N0.out.below hb)
          have N1 := Lib.hid (N1.out.below hb)
          have N2 := Lib.hid (N2.out.below hb)
          have N3 := Lib.hid (N3.out.below hb)
          have N4 := Lib.hid (N4.out.below hb)
          have N5 := Lib.hid (N5.out.below hb)
          have N6 := Lib.hid (N6.out.below hb)
          have N7 := Lib.hid (N7.out.below hb)
          have N8 := Lib.hid (N8.out.below hb)
          have hbk := keepb BB.out hb
          have BB := Lib.hid hbk
          clear hbk hb 
          have c0_0 := B0.out.cell 0
          have c1_0 := B1.out.cell 0
          have c2_0 := B2.out.cell 0
          have c3_0 := B3.out.cell 0
          have c4_0 := B4.out.cell 0
          have c5_0 := B5.out.cell 0
          have c6_0 := B6.out.cell 0
          have c7_0 := B7.out.cell 0
          have c8_0 := B8.out.cell 0
          have c9_0 := B9.out.cell 0
          clear f6
          have f6 : w11.frozen? ⟨w7.heap.size, 0, none⟩ = false := B6.out.frozen 0
          have HCU := Lib.hid HCT.out
          generalize cmpI (Sz - lo) (hi - Sz) = cc at *
          rcases hcr with rfl | rfl | rfl
          · have HV : Hid (X = lo) := Lib.hid (by rw [HV0.out, HCU.out]; rfl)
            go_wp2_with fail
            refine (HTX.out _ _ _ _ _ N5.out HBL.out).mono ?_
            rintro e wy ⟨rfl, hb⟩
            have BY := Lib.hid (keepb BB.out hb)
            have HDL := Lib.hid (len_of_blen HBL.out)
            have HRR : Hid (R1 = noughtsR (dtext lo) ∧ R2 = ((dtext lo).length : Int) - 1075) := Lib.hid (by have h := HSR.out; rw [HV.out] at h; exact ⟨congrArg Prod.fst h, congrArg Prod.snd h⟩)
            clear hb c0_0 c1_0 c2_0 c3_0 c4_0 c5_0 c6_0 c7_0 c8_0 c9_0 f6
            go_wp2_with fail
            refine (HRW.out _ _ (by have := HDL.out; omega)).mono ?_
            rintro e wz ⟨rfl, hb⟩
            have BZ := Lib.hid (keepb BY.out hb)
            clear hb
            go_wp2_with fail
            go_ret3
            exact ⟨by rw [HRR.out.1, HRR.out.2] <;> rfl, BZ.out⟩
          · go_wp2_with fail
            refine (KBI.out _ _ _ _ N4.out).mono ?_
            rintro e wb ⟨rfl, hb⟩
            clear c0_0 c1_0 c2_0 c3_0 c4_0 c5_0 c6_0 c7_0 c8_0 c9_0 f6
            have B0 := Lib.hid (B0.out.st hb)
            have B1 := Lib.hid (B1.out.st hb)
            have B2 := Lib.hid (B2.out.st hb)
            have B3 := Lib.hid (B3.out.st hb)
            have B4 := Lib.hid (B4.out.st hb)
            have B5 := Lib.hid (B5.out.st hb)
            have B6 := Lib.hid (B6.out.st hb)
            have B7 := Lib.hid (B7.out.st hb)
            have B8 := Lib.hid (B8.out.st hb)
            have B9 := Lib.hid (B9.out.st hb)
            have N0 := Lib.hid (N0.out.below hb)
            have N1 := Lib.hid (N1.out.below hb)
            have N2 := Lib.hid (N2.out.below hb)
            have N3 := Lib.hid (N3.out.below hb)
            have N4 := Lib.hid (N4.out.below hb)
            have N5 := Lib.hid (N5.out.below hb)
            have N6 := Lib.hid (N6.out.below hb)
            have N7 := Lib.hid (N7.out.below hb)
            have N8 := Lib.hid (N8.out.below hb)
            have BB := Lib.hid (keepb BB.out hb)
            clear hb
            have c0_0 := B0.out.cell 0
            have c1_0 := B1.out.cell 0
            have c2_0 := B2.out.cell 0
            have c3_0 := B3.out.cell 0
            have c4_0 := B4.out.cell 0
            have c5_0 := B5.out.cell 0
            have c6_0 := B6.out.cell 0
            have c7_0 := B7.out.cell 0
            have c8_0 := B8.out.cell 0
            have c9_0 := B9.out.cell 0
            have f6 : wb.frozen? ⟨w7.heap.size, 0, none⟩ = false := B6.out.frozen 0
            cases hod : (hd % 2 == 1) with
            | false =>
              have HV : Hid (X = lo) := Lib.hid (by rw [HV0.out, HCU.out, hod]; rfl)
              clear hod
              go_wp2_with fail
              refine (HTX.out _ _ _ _ _ N5.out HBL.out).mono ?_
              rintro e wy ⟨rfl, hb⟩
              have BY := Lib.hid (keepb BB.out hb)
              have HDL := Lib.hid (len_of_blen HBL.out)
              have HRR : Hid (R1 = noughtsR (dtext lo) ∧ R2 = ((dtext lo).length : Int) - 1075) := Lib.hid (by have h := HSR.out; rw [HV.out] at h; exact ⟨congrArg Prod.fst h, congrArg Prod.snd h⟩)
              clear hb c0_0 c1_0 c2_0 c3_0 c4_0 c5_0 c6_0 c7_0 c8_0 c9_0 f6
              go_wp2_with fail
              refine (HRW.out _ _ (by have := HDL.out; omega)).mono ?_
              rintro e wz ⟨rfl, hb⟩
              have BZ := Lib.hid (keepb BY.out hb)
              clear hb
              go_wp2_with fail
              go_ret3
              exact ⟨by rw [HRR.out.1, HRR.out.2] <;> rfl, BZ.out⟩
            | true =>
              have HV : Hid (X = hi) := Lib.hid (by rw [HV0.out, HCU.out, hod]; rfl)
              clear hod
              go_wp2_with fail
              refine (HTX.out _ _ _ _ _ (N6.out.set B6.out (by decide) _) HBH.out).mono ?_
              rintro e wy ⟨rfl, hb⟩
              have BY := Lib.hid (keepb (BB.out.setCell (p := ⟨w7.heap.size, 0, none⟩) HW7.out _) hb)
              have HDL := Lib.hid (len_of_blen HBH.out)
              have HRR : Hid (R1 = noughtsR (dtext hi) ∧ R2 = ((dtext hi).length : Int) - 1075) := Lib.hid (by have h := HSR.out; rw [HV.out] at h; exact ⟨congrArg Prod.fst h, congrArg Prod.snd h⟩)
              clear hb c0_0 c1_0 c2_0 c3_0 c4_0 c5_0 c6_0 c7_0 c8_0 c9_0 f6
              go_wp2_with fail
              refine (HRW.out _ _ (by have := HDL.out; omega)).mono ?_
              rintro e wz ⟨rfl, hb⟩
              have BZ := Lib.hid (keepb BY.out hb)
              clear hb
              go_wp2_with fail
              go_ret3
              exact ⟨by rw [HRR.out.1, HRR.out.2] <;> rfl, BZ.out⟩
          · have HV : Hid (X = hi) := Lib.hid (by rw [HV0.out, HCU.out]; rfl)
            go_wp2_with fail
            refine (HTX.out _ _ _ _ _ (N6.out.set B6.out (by decide) _) HBH.out).mono ?_
            rintro e wy ⟨rfl, hb⟩
            have BY := Lib.hid (keepb (BB.out.setCell (p := ⟨w7.heap.size, 0, none⟩) HW7.out _) hb)
            have HDL := Lib.hid (len_of_blen HBH.out)
            have HRR : Hid (R1 = noughtsR (dtext hi) ∧ R2 = ((dtext hi).length : Int) - 1075) := Lib.hid (by have h := HSR.out; rw [HV.out] at h; exact ⟨congrArg Prod.fst h, congrArg Prod.snd h⟩)
            clear hb c0_0 c1_0 c2_0 c3_0 c4_0 c5_0 c6_0 c7_0 c8_0 c9_0 f6
            go_wp2_with fail
            refine (HRW.out _ _ (by have := HDL.out; omega)).mono ?_
            rintro e wz ⟨rfl, hb⟩
            have BZ := Lib.hid (keepb BY.out hb)
            clear hb
            go_wp2_with fail
            go_ret3
            exact ⟨by rw [HRR.out.1, HRR.out.2] <;> rfl, BZ.out⟩
    · have hkL : L = k := by omega
      subst hkL
      have t1 : decide (((L : Nat) : Int) < (s.length : Int)) = false := decide_eq_false (by omega)
      have t1' : decide (L < s.length) = false := decide_eq_false (by omega)
      have HVV : Hid (X = Sz) := Lib.hid (by rw [← HFK.out, Nat.sub_self]; exact firstG_zero _ _ _)
      have HRR : Hid (R1 = noughtsR s ∧ R2 = (L : Int) - 1075) := Lib.hid (by have h := HSR.out; rw [HVV.out] at h; unfold rowN at h; rw [HSD.out] at h; exact ⟨congrArg Prod.fst h, by have h2 := congrArg Prod.snd h; simp only at h2; rw [h2, HLS.out]⟩)
      clear hlt
      go_wp2_with fail
      refine (HRW.out _ _ (by omega)).mono ?_
      rintro e wz ⟨rfl, hb⟩
      have BZ := Lib.hid (keepb BB.out hb)
      clear hb
      go_wp2_with fail
      go_ret3
      exact ⟨by rw [HRR.out.1, HRR.out.2] <;> rfl, BZ.out⟩

theorem short_round {S L p : Nat} (hS : S < 2 ^ bigE) (hp : p ≤ 2 ^ 7200) (hp0 : 0 < p) : blen p ≤ 8192 ∧ blen (S / p) ≤ 8192 ∧ blen (S / p * p) ≤ 8192 ∧ blen (S / p * p + p) ≤ 8192 ∧ S / p * p ≤ S ∧ S ≤ S / p * p + p := by
  obtain ⟨P, hP⟩ : ∃ P, P = 7200 := ⟨_, rfl⟩
  rw [← hP] at hp
  have hbig : bigE ≤ P := by rw [hP]; decide
  have hS' : S < 2 ^ P := Nat.lt_of_lt_of_le hS (Nat.pow_le_pow_right (by decide) hbig)
  have d1 := Nat.div_le_self S p
  have d2 := Nat.div_mul_le_self S p
  have d3 := Nat.lt_div_mul_add (a := S) hp0
  obtain ⟨Z, hZ⟩ : ∃ Z, 2 ^ P = Z := ⟨_, rfl⟩
  have hq : ∀ {x : Nat}, x ≤ 2 * Z → blen x ≤ 8192 := fun {x} h => by
    have e : 2 * Z = 2 ^ (P + 1) := by rw [Nat.pow_succ, hZ, Nat.mul_comm]
    have h2 : x < 2 ^ (P + 2) := by
      have : 2 ^ (P + 1) < 2 ^ (P + 2) := Nat.pow_lt_pow_right (by decide) (by omega)
      omega
    exact Nat.le_trans (blen_le.2 h2) (by rw [hP]; decide)
  rw [hZ] at hp hS'
  exact ⟨hq (by omega), hq (by omega), hq (by omega), hq (by omega), d2, by omega⟩
theorem big_blen {x : Nat} (h : x < 2 ^ bigE) : blen x ≤ 8192 := Nat.le_trans (blen_le.2 h) (by decide)
theorem short_in (b : Nat) (hb : b ≤ most) (W : World) (A : Option Addr) (n c x g1 g2 g3 : Nat) (hE : Ends W g1 g2 g3 (fromN b) (toN b) (b % 2 == 0)) (hl : NatL W A n c x) (hx : blen x ≤ 8192) : Calls Tryz.prog 48 #[.agg #[.slice A n c], .pointer (some ⟨g1, 0, none⟩), .pointer (some ⟨g2, 0, none⟩), .pointer (some ⟨g3, 0, none⟩)] W fun e w' => e = .returned (.bool (insD b x)) ∧ Below W.heap.size W w' := by
  have hT := toN_lt hb
  have hF := Nat.lt_of_le_of_lt (fromN_le b) hT
  have h := inside_any A n c x g1 g2 g3 _ _ _ W hE hl (by omega) (Nat.le_trans (big_blen hF) (by decide)) (Nat.le_trans (big_blen hT) (by decide))
  rw [insC_D] at h
  exact h
theorem dshort_fin (n b : Nat) (w : World) (hn : n < 18446744073709551616) (hbn : n % 9223372036854775808 = b) (hb : b ≤ most) (h0 : b ≠ 0) :
    Calls Tryz.prog 13 #[.int .u64 n] w fun e w' => e = .returned (.tuple #[.string ⟨(shortR b).1.toArray⟩, .int .i64 (shortR b).2, .nilIface]) ∧ Below w.heap.size w w' := by
  have hm0 : fltM b ≠ 0 := fun h => h0 ((flt_form b 1074 rfl).2.2.2.1 h)
  have hm1 : fltM b < 2 ^ 56 := by have := (flt_bounds hb).1; omega
  have hk1 : -1075 ≤ fltK b := by have := (flt_bounds hb).2.1; omega
  have hk2 : fltK b ≤ 971 := (flt_bounds hb).2.2
  have hS := sz_lt hb
  have hL := lenD_le hS
  refine dshort_walk n b (fltM b) (sz b) (fromN b) (toN b) (lenD (sz b)) (insD b) (fltK b) (dtext (sz b)) _ _ w ?_ ?_ ?_ ?_ ?_ ?_ ?_ ?_ ?_ ?_ ?_ ?_ ?_ ?_ ?_ ?_ ?_
  · exact Lib.hid (fun W => by rw [← hbn]; exact dparts_fin n W hn (by rw [hbn]; exact hb))
  · exact Lib.hid (fun W => scaled_o (fltM b) (fltK b) (sz b) W hm1 hk1 hk2 (sv5_sz b))
  · exact Lib.hid (fun W => ends_nat b W hb)
  · exact Lib.hid (fun W A n c x h hx => text_nat _ x W ⟨A, n, c, rfl, h⟩ (Nat.le_trans hx (by decide)))
  · exact Lib.hid (fun W s hs => (drow_any s W hs).mono fun e w' ⟨h1, h2⟩ => ⟨h1, by rw [← h2]; exact Below.refl _ _⟩)
  · exact Lib.hid (fun W A n c x g1 g2 g3 hE hl hx => short_in b hb W A n c x g1 g2 g3 hE hl hx)
  · exact Lib.hid (if_neg h0)
  · exact Lib.hid (fun k h1 h2 => short_round (L := 0) hS (pow_small (Nat.le_trans (Nat.sub_le _ _) hL)) (Nat.pow_pos (by decide)))
  · exact Lib.hid (big_blen hS)
  · rfl
  · exact Lib.hid (fun k hk => head_text _ k hk)
  · exact Lib.hid (dtext_digits _)
  · exact Lib.hid rfl
  · exact lenD_pos _
  · exact hL
  · rw [beq_eq_false_iff_ne]; omega
  · rw [beq_eq_false_iff_ne]; exact hm0
end Go.Proofs.YtnajondbdeclmaaGreatDoor

namespace Go.Proofs.YtnajondbdeclmaaGreatDoor
open Go.RowKit
set_option linter.unusedSimpArgs false
set_option linter.unusedVariables false

/-- What Shortest answers. -/
def shortV (n : Nat) : Value := if most < n % 9223372036854775808 then .tuple #[.string ⟨#[]⟩, .int .i64 0, enoV 50] else .tuple #[.string ⟨(shortR (n % 9223372036854775808)).1.toArray⟩, .int .i64 (shortR (n % 9223372036854775808)).2, .nilIface]
set_option maxRecDepth 100000 in
theorem dshort_any (n : Nat) (w : World) (hn : n < 18446744073709551616) :
    Calls Tryz.prog 13 #[.int .u64 n] w fun e w' => e = .returned (shortV n) ∧ Below w.heap.size w w' := by
  unfold shortV
  by_cases hf : most < n % 9223372036854775808
  · rw [if_pos hf]
    have HP := Lib.hid (fun W => dparts_inf n W hn hf)
    clear hf hn
    go_enter Tryz.func13, Tryz.ntmps13
    go_wp2_with fail
    refine (HP.out _).mono ?_
    rintro e w1 ⟨rfl, rfl⟩
    go_wp2_with fail
    go_ret3
    exact ⟨rfl, Below.refl _ _⟩
  · rw [if_neg hf]
    by_cases h0 : n % 9223372036854775808 = 0
    · have HP := Lib.hid (fun W => dparts_fin n W hn (by omega))
      rw [h0] at HP ⊢
      have e1 : ((fltM 0 : Nat) : Int) = 0 := rfl
      have e2 : shortR 0 = ([48], 1) := rfl
      rw [e1] at HP
      rw [e2]
      generalize fltK 0 = q at *
      clear hf hn h0 e1 e2
      go_enter Tryz.func13, Tryz.ntmps13
      go_wp2_with fail
      refine (HP.out _).mono ?_
      rintro e w1 ⟨rfl, rfl⟩
      go_wp2_with fail
      go_ret3
      exact ⟨rfl, Below.refl _ _⟩
    · exact dshort_fin n _ w hn rfl (by omega) h0
end Go.Proofs.YtnajondbdeclmaaGreatDoor
