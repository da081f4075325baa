/- Numbers of 128 bits as four parts of 32 bits: the reference's functions. -/
import Derived.Test.YtnghcpgdfkchdaaDoorPairC
import Derived.Test.YtnghcpgdfkchdaaDoorCalm
import Derived.Deep.QuietTactic
import Derived.BigQuiet
namespace Go.Proofs.YtnghcpgdfkchdaaDoor
open Go.RowKit
attribute [local go_sem] CGives_value CGives_skip CGives_enter MGives_value MGives_skip MGives_enter
set_option linter.unusedSimpArgs false
set_option linter.unusedVariables false

/-- The four parts of a number. -/
def q0 (N : Nat) : Nat := N % 4294967296
def q1 (N : Nat) : Nat := N / 4294967296 % 4294967296
def q2 (N : Nat) : Nat := N / 18446744073709551616 % 4294967296
def q3 (N : Nat) : Nat := N / 79228162514264337593543950336
def fv (N : Nat) : Value := .agg #[wv (q0 N), wv (q1 N), wv (q2 N), wv (q3 N)]
theorem q0_lt (N : Nat) : q0 N < 4294967296 := by unfold q0; omega
theorem q1_lt (N : Nat) : q1 N < 4294967296 := by unfold q1; omega
theorem q2_lt (N : Nat) : q2 N < 4294967296 := by unfold q2; omega
theorem q3_lt {N : Nat} (h : N < P128) : q3 N < 4294967296 := by unfold q3 P128 W64 at *; omega
theorem q_mk {a b c d N : Nat} (ha : a < 4294967296) (hb : b < 4294967296) (hc : c < 4294967296) (h : N = a + 4294967296 * (b + 4294967296 * (c + 4294967296 * d))) : q0 N = a ∧ q1 N = b ∧ q2 N = c ∧ q3 N = d := by
  unfold q0 q1 q2 q3; omega
theorem q_eq (N : Nat) : N = q0 N + 4294967296 * (q1 N + 4294967296 * (q2 N + 4294967296 * q3 N)) := by unfold q0 q1 q2 q3; omega
theorem fv_mk {a b c d N : Nat} (ha : a < 4294967296) (hb : b < 4294967296) (hc : c < 4294967296) (h : N = a + 4294967296 * (b + 4294967296 * (c + 4294967296 * d))) : fv N = .agg #[wv a, wv b, wv c, wv d] := by
  obtain ⟨h0, h1, h2, h3⟩ := q_mk ha hb hc h
  unfold fv; rw [h0, h1, h2, h3]
theorem four_div (a : Nat) : (a : Int) / 4294967296 = ((a / 4294967296 : Nat) : Int) := by omega
theorem four_mask (a : Nat) (ha : a < 18446744073709551616) : bits .and .u64 (a : Int) 4294967295 = ((a % 4294967296 : Nat) : Int) := by
  have h := bits_and_u64_nat a 4294967295 ha (by omega)
  rw [show a &&& 4294967295 = a % 4294967296 from Nat.and_two_pow_sub_one_eq_mod a 32] at h
  exact h
theorem four_or (d c : Nat) (hd : d < 4294967296) (hc : c < 4294967296) : bits .or .u64 ((d * 4294967296 : Nat) : Int) (c : Int) = ((d * 4294967296 + c : Nat) : Int) :=
  orN (s := 32) (H := d * 4294967296) (L := c) ⟨d, rfl⟩ (by omega) (by unfold W64; omega)

set_option maxRecDepth 100000 in
theorem cut_any (hi lo : Nat) (hh : hi < W64) (hl : lo < W64) (w : World) :
    Calls Tryd.prog 14 #[wv hi, wv lo] w fun e w' => e = .returned (fv (W64 * hi + lo)) ∧ Below w.heap.size w w' := by
  rw [fv_mk (a := lo % 4294967296) (b := lo / 4294967296) (c := hi % 4294967296) (d := hi / 4294967296) (by omega) (by unfold W64 at hl; omega) (by omega) (by unfold W64; omega)]
  have e1 := four_mask lo hl
  have e2 := four_div lo
  have e3 := four_mask hi hh
  have e4 := four_div hi
  generalize lo % 4294967296 = a at *
  generalize lo / 4294967296 = b at *
  generalize hi % 4294967296 = c at *
  generalize hi / 4294967296 = d at *
  clear hh hl
  go_enter Tryd.func14, Tryd.ntmps14
  go_wp2_with fail
  exact bodyPost_ret (v := .agg #[wv a, wv b, wv c, wv d]) (by simp [results, Tryd.results14, go_sem]) rfl ⟨rfl, by go_grown⟩

set_option maxRecDepth 100000 in
theorem radd4 (x0 x1 x2 x3 y0 y1 y2 y3 S0 C0 T1 S1 C1 T2 S2 C2 T3 S3 C3 r0 r1 r2 r3 : Nat) (ov : Bool)
    (e0 : IntKind.u64.wrap ((x0 : Int) + (y0 : Int)) = (S0 : Int)) (f0 : (S0 : Int) / 4294967296 = (C0 : Int))
    (t1 : IntKind.u64.wrap ((x1 : Int) + (y1 : Int)) = (T1 : Int)) (e1 : IntKind.u64.wrap ((T1 : Int) + (C0 : Int)) = (S1 : Int)) (f1 : (S1 : Int) / 4294967296 = (C1 : Int))
    (t2 : IntKind.u64.wrap ((x2 : Int) + (y2 : Int)) = (T2 : Int)) (e2 : IntKind.u64.wrap ((T2 : Int) + (C1 : Int)) = (S2 : Int)) (f2 : (S2 : Int) / 4294967296 = (C2 : Int))
    (t3 : IntKind.u64.wrap ((x3 : Int) + (y3 : Int)) = (T3 : Int)) (e3 : IntKind.u64.wrap ((T3 : Int) + (C2 : Int)) = (S3 : Int)) (f3 : (S3 : Int) / 4294967296 = (C3 : Int))
    (m0 : bits .and .u64 (S0 : Int) 4294967295 = (r0 : Int)) (m1 : bits .and .u64 (S1 : Int) 4294967295 = (r1 : Int)) (m2 : bits .and .u64 (S2 : Int) 4294967295 = (r2 : Int)) (m3 : bits .and .u64 (S3 : Int) 4294967295 = (r3 : Int))
    (o1 : decide ((0 : Int) < (C3 : Int)) = ov) (o2 : decide (0 < C3) = ov) (w : World) :
    Calls Tryd.prog 28 #[.agg #[wv x0, wv x1, wv x2, wv x3], .agg #[wv y0, wv y1, wv y2, wv y3]] w fun e w' => e = .returned (.tuple #[.agg #[wv r0, wv r1, wv r2, wv r3], .bool ov]) ∧ Below w.heap.size w w' := by
  go_enter Tryd.func28, Tryd.ntmps28
  go_wp2_with fail
  exact bodyPost_ret (v := .tuple #[.agg #[wv r0, wv r1, wv r2, wv r3], .bool ov]) (by simp [results, Tryd.results28, go_sem]) rfl ⟨rfl, by go_grown⟩

theorem four_wrap {a b c : Nat} (h : a + b = c) (hc : c < 18446744073709551616) : IntKind.u64.wrap ((a : Int) + (b : Int)) = (c : Int) := by
  subst h
  rw [← Int.natCast_add]; exact wrapN _ (by unfold W64; exact hc)

theorem radd_any (N M : Nat) (hN : N < P128) (hM : M < P128) (w : World) :
    Calls Tryd.prog 28 #[fv N, fv M] w fun e w' => e = .returned (.tuple #[fv ((N + M) % P128), .bool (decide (P128 ≤ N + M))]) ∧ Below w.heap.size w w' := by
  have a0 := q0_lt N
  have a1 := q1_lt N
  have a2 := q2_lt N
  have a3 := q3_lt hN
  have b0 := q0_lt M
  have b1 := q1_lt M
  have b2 := q2_lt M
  have b3 := q3_lt hM
  have eN := q_eq N
  have eM := q_eq M
  unfold fv
  generalize q0 N = x0 at *
  generalize q1 N = x1 at *
  generalize q2 N = x2 at *
  generalize q3 N = x3 at *
  generalize q0 M = y0 at *
  generalize q1 M = y1 at *
  generalize q2 M = y2 at *
  generalize q3 M = y3 at *
  obtain ⟨S0, h0⟩ : ∃ s, x0 + y0 = s := ⟨_, rfl⟩
  obtain ⟨T1, k1⟩ : ∃ s, x1 + y1 = s := ⟨_, rfl⟩
  obtain ⟨S1, h1⟩ : ∃ s, T1 + S0 / 4294967296 = s := ⟨_, rfl⟩
  obtain ⟨T2, k2⟩ : ∃ s, x2 + y2 = s := ⟨_, rfl⟩
  obtain ⟨S2, h2⟩ : ∃ s, T2 + S1 / 4294967296 = s := ⟨_, rfl⟩
  obtain ⟨T3, k3⟩ : ∃ s, x3 + y3 = s := ⟨_, rfl⟩
  obtain ⟨S3, h3⟩ : ∃ s, T3 + S2 / 4294967296 = s := ⟨_, rfl⟩
  have hsum : N + M = S0 % 4294967296 + 4294967296 * (S1 % 4294967296 + 4294967296 * (S2 % 4294967296 + 4294967296 * S3)) := by omega
  have hq := q_mk (N := (N + M) % P128) (a := S0 % 4294967296) (b := S1 % 4294967296) (c := S2 % 4294967296) (d := S3 % 4294967296) (by omega) (by omega) (by omega) (by rw [hsum]; unfold P128 W64; omega)
  have ho : decide (P128 ≤ N + M) = decide (0 < S3 / 4294967296) := by
    rw [hsum]; unfold P128 W64
    rw [Bool.eq_iff_iff, decide_eq_true_iff, decide_eq_true_iff]
    omega
  rw [ho, hq.1, hq.2.1, hq.2.2.1, hq.2.2.2]
  exact radd4 x0 x1 x2 x3 y0 y1 y2 y3 S0 _ T1 S1 _ T2 S2 _ T3 S3 _ _ _ _ _ _ (four_wrap h0 (by omega)) (four_div S0) (four_wrap k1 (by omega)) (four_wrap h1 (by omega)) (four_div S1) (four_wrap k2 (by omega)) (four_wrap h2 (by omega)) (four_div S2)
    (four_wrap k3 (by omega)) (four_wrap h3 (by omega)) (four_div S3) (four_mask S0 (by omega)) (four_mask S1 (by omega)) (four_mask S2 (by omega)) (four_mask S3 (by omega)) (by rw [Bool.eq_iff_iff, decide_eq_true_iff, decide_eq_true_iff]; omega) rfl w

theorem four_half (x y : Nat) (hx : x < 4294967296) : ((x : Int) / 2 = ((x / 2 : Nat) : Int)) ∧ bits .and .u64 (y : Int) 1 = ((y % 2 : Nat) : Int) → True := fun _ => trivial
theorem half_and (y : Nat) (hy : y < 18446744073709551616) : bits .and .u64 (y : Int) 1 = ((y % 2 : Nat) : Int) := by
  have h := bits_and_u64_nat y 1 hy (by omega)
  rw [show y &&& 1 = y % 2 from Nat.and_two_pow_sub_one_eq_mod y 1] at h
  exact h
theorem half_shl (y : Nat) : IntKind.u64.wrap (((y % 2 : Nat) : Int) * 2147483648) = ((y % 2 * 2147483648 : Nat) : Int) := by
  rw [show ((y % 2 : Nat) : Int) * 2147483648 = ((y % 2 * 2147483648 : Nat) : Int) by omega]
  exact wrapN _ (by unfold W64; omega)
theorem half_or (x y : Nat) (hx : x < 4294967296) : bits .or .u64 ((x / 2 : Nat) : Int) ((y % 2 * 2147483648 : Nat) : Int) = ((x / 2 + y % 2 * 2147483648 : Nat) : Int) := by
  rw [orN' (s := 31) (H := y % 2 * 2147483648) (L := x / 2) ⟨y % 2, rfl⟩ (by omega) (by unfold W64; omega), Nat.add_comm]

set_option maxRecDepth 100000 in
theorem half4 (x0 x1 x2 x3 h0 h1 h2 h3 m1 m2 m3 s1 s2 s3 r0 r1 r2 : Nat)
    (a0 : (x0 : Int) / 2 = (h0 : Int)) (a1 : (x1 : Int) / 2 = (h1 : Int)) (a2 : (x2 : Int) / 2 = (h2 : Int)) (a3 : (x3 : Int) / 2 = (h3 : Int))
    (b1 : bits .and .u64 (x1 : Int) 1 = (m1 : Int)) (b2 : bits .and .u64 (x2 : Int) 1 = (m2 : Int)) (b3 : bits .and .u64 (x3 : Int) 1 = (m3 : Int))
    (c1 : IntKind.u64.wrap ((m1 : Int) * 2147483648) = (s1 : Int)) (c2 : IntKind.u64.wrap ((m2 : Int) * 2147483648) = (s2 : Int)) (c3 : IntKind.u64.wrap ((m3 : Int) * 2147483648) = (s3 : Int))
    (o0 : bits .or .u64 (h0 : Int) (s1 : Int) = (r0 : Int)) (o1 : bits .or .u64 (h1 : Int) (s2 : Int) = (r1 : Int)) (o2 : bits .or .u64 (h2 : Int) (s3 : Int) = (r2 : Int)) (w : World) :
    Calls Tryd.prog 64 #[.agg #[wv x0, wv x1, wv x2, wv x3]] w fun e w' => e = .returned (.agg #[wv r0, wv r1, wv r2, wv h3]) ∧ Below w.heap.size w w' := by
  go_enter Tryd.func64, Tryd.ntmps64
  go_wp2_with fail
  exact bodyPost_ret (v := .agg #[wv r0, wv r1, wv r2, wv h3]) (by simp [results, Tryd.results64, go_sem]) rfl ⟨rfl, by go_grown⟩

theorem half_any (N : Nat) (hN : N < P128) (w : World) :
    Calls Tryd.prog 64 #[fv N] w fun e w' => e = .returned (fv (N / 2)) ∧ Below w.heap.size w w' := by
  have a0 := q0_lt N
  have a1 := q1_lt N
  have a2 := q2_lt N
  have a3 := q3_lt hN
  have eN := q_eq N
  have hh : ∀ x : Nat, (x : Int) / 2 = ((x / 2 : Nat) : Int) := fun x => by omega
  rw [show fv (N / 2) = .agg #[wv (q0 N / 2 + q1 N % 2 * 2147483648), wv (q1 N / 2 + q2 N % 2 * 2147483648), wv (q2 N / 2 + q3 N % 2 * 2147483648), wv (q3 N / 2)] from fv_mk (by omega) (by omega) (by omega) (by
    have : N / 2 = (q0 N + 4294967296 * (q1 N + 4294967296 * (q2 N + 4294967296 * q3 N))) / 2 := by rw [← eN]
    omega)]
  unfold fv
  exact half4 (q0 N) (q1 N) (q2 N) (q3 N) _ _ _ _ _ _ _ _ _ _ _ _ _ (hh _) (hh _) (hh _) (hh _) (half_and _ (by omega)) (half_and _ (by omega)) (half_and _ (by omega)) (half_shl _) (half_shl _) (half_shl _) (half_or _ _ a0) (half_or _ _ a1) (half_or _ _ a2) w

set_option maxRecDepth 100000 in
theorem rhi_any (N : Nat) (hN : N < P128) (w : World) :
    Calls Tryd.prog 54 #[fv N] w fun e w' => e = .returned (wv (pHi N)) ∧ Below w.heap.size w w' := by
  have a2 := q2_lt N
  have a3 := q3_lt hN
  have eN : pHi N = q3 N * 4294967296 + q2 N := by unfold pHi q2 q3 W64; omega
  have o := four_or (q3 N) (q2 N) a3 a2
  have s : IntKind.u64.wrap ((q3 N : Int) * 4294967296) = ((q3 N * 4294967296 : Nat) : Int) := by
    rw [show (q3 N : Int) * 4294967296 = ((q3 N * 4294967296 : Nat) : Int) by omega]; exact wrapN _ (by unfold W64; omega)
  rw [eN]
  unfold fv
  generalize q3 N * 4294967296 + q2 N = r at *
  generalize q3 N * 4294967296 = m at *
  generalize q0 N = x0 at *
  generalize q1 N = x1 at *
  generalize q2 N = x2 at *
  generalize q3 N = x3 at *
  clear a2 a3 eN hN
  go_enter Tryd.func54, Tryd.ntmps54
  go_wp2_with fail
  go_ret
  exact ⟨rfl, by go_grown⟩
set_option maxRecDepth 100000 in
theorem rlo_any (N : Nat) (w : World) :
    Calls Tryd.prog 53 #[fv N] w fun e w' => e = .returned (wv (pLo N)) ∧ Below w.heap.size w w' := by
  have a2 := q0_lt N
  have a3 := q1_lt N
  have eN : pLo N = q1 N * 4294967296 + q0 N := by unfold pLo q0 q1 W64; omega
  have o := four_or (q1 N) (q0 N) a3 a2
  have s : IntKind.u64.wrap ((q1 N : Int) * 4294967296) = ((q1 N * 4294967296 : Nat) : Int) := by
    rw [show (q1 N : Int) * 4294967296 = ((q1 N * 4294967296 : Nat) : Int) by omega]; exact wrapN _ (by unfold W64; omega)
  rw [eN]
  unfold fv
  generalize q1 N * 4294967296 + q0 N = r at *
  generalize q1 N * 4294967296 = m at *
  generalize q0 N = x0 at *
  generalize q1 N = x1 at *
  generalize q2 N = x2 at *
  generalize q3 N = x3 at *
  clear a2 a3 eN
  go_enter Tryd.func53, Tryd.ntmps53
  go_wp2_with fail
  go_ret
  exact ⟨rfl, by go_grown⟩
end Go.Proofs.YtnghcpgdfkchdaaDoor
