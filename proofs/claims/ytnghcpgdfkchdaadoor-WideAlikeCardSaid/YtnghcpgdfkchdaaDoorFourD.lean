/- Numbers of 128 bits as four parts: how many bits, quotients. -/
import Derived.Test.YtnghcpgdfkchdaaDoorFourC
import Derived.Test.YtnghcpgdfkchdaaDoorNatK
namespace Go.Proofs.YtnghcpgdfkchdaaDoor
open Go.RowKit
attribute [local go_sem] CGives_value CGives_skip CGives_enter MGives_value MGives_skip MGives_enter
set_option linter.unusedSimpArgs false
set_option linter.unusedVariables false

theorem four_ne {X : Nat} (h : X ≠ 0) (w : World) : (binOp .neq 30 (.agg #[wv (q0 X), wv (q1 X), wv (q2 X), wv (q3 X)]) (.agg #[.int .u64 0, .int .u64 0, .int .u64 0, .int .u64 0])).run Tryd.prog w = .ok (.bool true) w := by
  have h4 : ¬ (q0 X = 0 ∧ q1 X = 0 ∧ q2 X = 0 ∧ q3 X = 0) := fun ⟨a, b, c, d⟩ => h (by rw [q_eq X, a, b, c, d])
  generalize q0 X = a at *
  generalize q1 X = b at *
  generalize q2 X = c at *
  generalize q3 X = d at *
  have hs : (binOp .neq 30 (.agg #[wv a, wv b, wv c, wv d]) (.agg #[.int .u64 0, .int .u64 0, .int .u64 0, .int .u64 0])).run Tryd.prog w = if a = 0 then if b = 0 then if c = 0 then if d = 0 then .ok (.bool false) w else .ok (.bool true) w else .ok (.bool true) w else .ok (.bool true) w else .ok (.bool true) w := by
    clear h4 h
    go_simp
  rw [hs]
  by_cases ha : a = 0
  · by_cases hb : b = 0
    · by_cases hc : c = 0
      · have hd : d ≠ 0 := fun hd => h4 ⟨ha, hb, hc, hd⟩
        rw [if_pos ha, if_pos hb, if_pos hc, if_neg hd]
      · rw [if_pos ha, if_pos hb, if_neg hc]
    · rw [if_pos ha, if_neg hb]
  · rw [if_neg ha]

set_option maxRecDepth 100000 in
set_option maxHeartbeats 1000000 in
theorem rlen_any (N : Nat) (hN : N < P128) (w : World) :
    Calls Tryd.prog 35 #[fv N] w fun e w' => e = .returned (.int .i64 (blen N : Nat)) ∧ Below w.heap.size w w' := by
  have hL : blen N ≤ 128 := blen_le.2 (Nat.lt_of_lt_of_le hN (by unfold P128 W64; decide))
  unfold fv
  go_enter Tryd.func35, Tryd.ntmps35
  go_wp2_with fail
  go_loopw [3] (fun i wr => ∃ k : Nat, i = .int .i64 k ∧ k ≤ blen N ∧ FB wr w.heap.size (N / 2 ^ k) ∧ Below w.heap.size w wr) (fun i _ => blen N - (intOf i).toNat)
  case atStart =>
    refine ⟨0, rfl, Nat.zero_le _, ?_, ?_⟩
    · rw [show N / 2 ^ 0 = N from by rw [Nat.pow_zero, Nat.div_one]]
      exact Blk.new w _ _
    · exact (Below.refl _ w).alloc (Nat.le_refl _) _
  case round =>
    obtain ⟨k, rfl, hk, hb2, hB⟩ := hrel
    have hX : N / 2 ^ k < P128 := Nat.lt_of_le_of_lt (Nat.div_le_self N (2 ^ k)) hN
    have hNX : N / 2 ^ (k + 1) = N / 2 ^ k / 2 := by rw [Nat.pow_succ, Nat.div_div_eq_div_mul]
    have h0 : N / 2 ^ k = 0 → k = blen N := fun h => by
      have h1 : N < 2 ^ k := Nat.lt_of_not_le fun h2 => by have := (Nat.one_le_div_iff (Nat.pow_pos (n := k) (show 0 < 2 by omega))).2 h2; omega
      have := blen_le.2 h1
      omega
    have h1 : N / 2 ^ k ≠ 0 → k < blen N := fun h => Nat.lt_of_not_le fun h2 => h (Nat.div_eq_of_lt (blen_le.1 h2))
    generalize N / 2 ^ k = X at *
    have HNX := Lib.hid hNX
    have HX := Lib.hid hX
    have HB := Lib.hid hB
    have H2 := Lib.hid hb2
    obtain ⟨c0, c1, c2, c3⟩ := hb2.cells
    clear hB hb2 hX hNX
    by_cases hz : X = 0
    · have hkk := h0 hz
      clear h0 h1
      subst hz
      have HKK := Lib.hid hkk
      clear hkk
      rw [show wv (q0 0) = .int .u64 0 from rfl] at c0
      rw [show wv (q1 0) = .int .u64 0 from rfl] at c1
      rw [show wv (q2 0) = .int .u64 0 from rfl] at c2
      rw [show wv (q3 0) = .int .u64 0 from rfl] at c3
      go_wp2_with fail
      go_ret
      exact ⟨ret_int (by rw [HKK.out]), HB.out⟩
    · have HLT := Lib.hid (h1 hz)
      have hne := four_ne hz
      have hk0 : (0 : Int) ≤ k := by omega
      have hk1 : (k : Int) < 128 := by have := h1 hz; omega
      clear h0 h1 hz
      go_wp2_with fail
      refine (half_any X HX.out _).mono ?_
      rintro e w1 ⟨rfl, hb⟩
      have h2 := H2.out.st hb
      have J2 := Lib.hid h2
      have JB := Lib.hid (HB.out.trans (hb.mono HB.out.size))
      clear c0 c1 c2 c3
      obtain ⟨c0, c1, c2, c3⟩ := h2.cells
      obtain ⟨f0, f1, f2, f3⟩ := h2.frozen
      clear h2 hb hne
      unfold fv
      go_wp2_with fail
      go_roundw
      case rel => exact ⟨k + 1, by go_num, HLT.out, by rw [HNX.out]; exact J2.out.put _, below_put4 JB.out (Nat.le_refl _) _⟩
      case measure => have := HLT.out; simp [intOf]; omega

theorem radd_twice (N : Nat) (h : 2 * N < P128) (w : World) : Calls Tryd.prog 28 #[.agg #[wv (q0 N), wv (q1 N), wv (q2 N), wv (q3 N)], .agg #[wv (q0 N), wv (q1 N), wv (q2 N), wv (q3 N)]] w fun e w' => e = .returned (.tuple #[fv (2 * N), .bool false]) ∧ Below w.heap.size w w' := by
  have hh := radd_any N N (by omega) (by omega) w
  rw [show (N + N) % P128 = 2 * N by rw [Nat.mod_eq_of_lt (by omega)]; omega, show decide (P128 ≤ N + N) = false by simp; omega] at hh
  exact hh
theorem radd_one (N : Nat) (h : N + 1 < P128) (w : World) : Calls Tryd.prog 28 #[.agg #[wv (q0 N), wv (q1 N), wv (q2 N), wv (q3 N)], .agg #[.int .u64 1, .int .u64 0, .int .u64 0, .int .u64 0]] w fun e w' => e = .returned (.tuple #[fv (N + 1), .bool false]) ∧ Below w.heap.size w w' := by
  have hh := radd_any N 1 (by omega) (by unfold P128 W64; omega) w
  rw [Nat.mod_eq_of_lt h, show decide (P128 ≤ N + 1) = false by simp; omega] at hh
  exact hh
theorem rsub_le (N M : Nat) (hN : N < P128) (h : M ≤ N) (w : World) : Calls Tryd.prog 30 #[.agg #[wv (q0 N), wv (q1 N), wv (q2 N), wv (q3 N)], .agg #[wv (q0 M), wv (q1 M), wv (q2 M), wv (q3 M)]] w fun e w' => e = .returned (.tuple #[fv (N - M), .bool false]) ∧ Below w.heap.size w w' := by
  have hh := rsub_any N M hN (by omega) w
  rw [show (N + P128 - M) % P128 = N - M by rw [show N + P128 - M = N - M + P128 by omega, Nat.add_mod_right, Nat.mod_eq_of_lt (by omega)], show decide (N < M) = false by simp; omega] at hh
  exact hh
theorem bit_and (X : Nat) : bits .and .u64 ((q0 X : Nat) : Int) 1 = ((X % 2 : Nat) : Int) := by
  rw [half_and _ (by have := q0_lt X; omega)]
  congr 1
  unfold q0; omega
theorem cut_zero (d : Nat) (hd : d < W64) (w : World) : Calls Tryd.prog 14 #[.int .u64 0, wv d] w fun e w' => e = .returned (fv d) ∧ Below w.heap.size w w' := by
  have hh := cut_any 0 d (by unfold W64; omega) hd w
  rw [Nat.mul_zero, Nat.zero_add] at hh
  exact hh
end Go.Proofs.YtnghcpgdfkchdaaDoor
