/- The contract of natural numbers' Shr. -/
import Derived.Test.YtjggmdlecdbeeaaGreatDoorNatL
namespace Go.Proofs.YtjggmdlecdbeeaaGreatDoor
open Go.RowKit
set_option linter.unusedSimpArgs false
set_option linter.unusedVariables false

theorem W64p (n : Nat) : W64 ^ n = 2 ^ (64 * n) := by rw [W64_pow, Nat.pow_mul]
/-- A word of a number that is shifted down: of two words of the number. -/
theorem shr_word {x j r : Nat} (hr : r < 64) : (x / W64 ^ j % P128) / 2 ^ r % W64 = x / 2 ^ (64 * j + r) % W64 ∧ pHi (x / W64 ^ j % P128) = x / W64 ^ (j + 1) % W64 ∧ pLo (x / W64 ^ j % P128) = x / W64 ^ j % W64 := by
  have h1 : P128 = 2 ^ r * 2 ^ (128 - r) := by rw [← Nat.pow_add, show r + (128 - r) = 128 by omega]; rfl
  have h2 : W64 ∣ 2 ^ (128 - r) := ⟨2 ^ (64 - r), by rw [W64_pow, ← Nat.pow_add]; congr 1; omega⟩
  have h3 : P128 = W64 * W64 := rfl
  refine ⟨?_, ?_, ?_⟩
  · rw [h1, Nat.mod_mul_right_div_self, Nat.mod_mod_of_dvd _ h2, Nat.div_div_eq_div_mul, W64p, ← Nat.pow_add]
  · unfold pHi
    rw [h3, Nat.mod_mul_right_div_self, Nat.div_div_eq_div_mul, ← Nat.pow_succ]
  · unfold pLo
    rw [h3, Nat.mod_mul_right_mod]
/-- Was something lost of the words below i? -/
def lostV (x K i : Nat) : Bool := decide (x % 2 ^ min (64 * i) K ≠ 0)
theorem lost_low {x K i : Nat} (h : i < K / 64) : lostV x K (i + 1) = (lostV x K i || decide (x / W64 ^ i % W64 ≠ 0)) := by
  unfold lostV
  rw [Nat.min_eq_left (by omega), Nat.min_eq_left (by omega), show 64 * (i + 1) = 64 * i + 64 by omega, Nat.pow_add, Nat.mod_mul, ← W64p]
  have hp : 0 < W64 ^ i := Nat.pow_pos (by unfold W64; omega)
  show decide (x % W64 ^ i + W64 ^ i * (x / W64 ^ i % W64) ≠ 0) = _
  generalize x / W64 ^ i % W64 = X
  cases X with
  | zero => simp
  | succ X =>
    have : 0 < W64 ^ i * (X + 1) := Nat.mul_pos hp (by omega)
    simp; omega
theorem lost_at {x K i : Nat} (h : i = K / 64) : lostV x K (i + 1) = (lostV x K i || decide (x / W64 ^ i % W64 % 2 ^ (K % 64) ≠ 0)) := by
  unfold lostV
  have hK : K = 64 * i + K % 64 := by omega
  generalize K % 64 = r at *
  have hr : r < 64 := by omega
  rw [Nat.min_eq_right (by omega), Nat.min_eq_left (by omega)]
  rw [hK, Nat.pow_add, Nat.mod_mul, ← W64p]
  have hp : 0 < W64 ^ i := Nat.pow_pos (by unfold W64; omega)
  have h2 : x / W64 ^ i % W64 % 2 ^ r = x / W64 ^ i % 2 ^ r := Nat.mod_mod_of_dvd _ ⟨2 ^ (64 - r), by rw [W64_pow, ← Nat.pow_add]; congr 1; omega⟩
  rw [h2]
  generalize x / W64 ^ i % 2 ^ r = X
  cases X with
  | zero => simp
  | succ X =>
    have : 0 < W64 ^ i * (X + 1) := Nat.mul_pos hp (by omega)
    simp; omega
theorem lost_high {x K i : Nat} (h : K / 64 < i) : lostV x K (i + 1) = lostV x K i := by
  unfold lostV
  rw [Nat.min_eq_right (by omega), Nat.min_eq_right (by omega)]
theorem lost_end {x K n : Nat} (h : x < W64 ^ n) : lostV x K n = decide (x % 2 ^ K ≠ 0) := by
  unfold lostV
  by_cases hk : K ≤ 64 * n
  · rw [Nat.min_eq_right hk]
  · rw [W64p] at h
    rw [Nat.min_eq_left (by omega), Nat.mod_eq_of_lt h, Nat.mod_eq_of_lt (Nat.lt_of_lt_of_le h (Nat.pow_le_pow_right (by omega) (by omega)))]
theorem shr_end {x K n : Nat} (h : x < W64 ^ n) : fval W64 (lows W64 (n - K / 64) (x / 2 ^ K)) = x / 2 ^ K := by
  rw [fval_lows]
  apply Nat.mod_eq_of_lt
  rw [W64p] at h ⊢
  rw [Nat.div_lt_iff_lt_mul (Nat.pow_pos (by omega)), ← Nat.pow_add]
  exact Nat.lt_of_lt_of_le h (Nat.pow_le_pow_right (by omega) (by omega))
theorem maskR (X r : Nat) (hX : X < W64) (hr : r < 64) : bits .and .u64 (X : Int) ((2 ^ r - 1 : Nat) : Int) = ((X % 2 ^ r : Nat) : Int) := by
  have h := bits_and_u64_nat X (2 ^ r - 1) hX (by have := Nat.pow_lt_pow_right (show 1 < 2 by omega) hr; unfold W64 at *; omega)
  rw [Nat.and_two_pow_sub_one_eq_mod] at h
  exact h
theorem shrp (x j r : Nat) (hr : r < 64) (w : World) :
    Calls Tryz.prog 123 #[.agg #[wv (x / W64 ^ (j + 1) % W64), wv (x / W64 ^ j % W64)], .int .i64 (r : Int)] w fun e w' => (∃ hi, e = .returned (.agg #[wv hi, wv (x / 2 ^ (64 * j + r) % W64)])) ∧ Below w.heap.size w w' := by
  obtain ⟨h1, h2, h3⟩ := shr_word (x := x) (j := j) hr
  have h := shr_pair (x / W64 ^ j % P128) (r : Int) (Nat.mod_lt _ (by unfold P128 W64; omega)) w
  have hc : cutN (r : Int) = r := by unfold cutN; omega
  have e1 : pv (x / W64 ^ j % P128) = .agg #[wv (x / W64 ^ (j + 1) % W64), wv (x / W64 ^ j % W64)] := by unfold pv; rw [h2, h3]
  have e2 : pv (x / W64 ^ j % P128 / 2 ^ r) = .agg #[wv (pHi (x / W64 ^ j % P128 / 2 ^ r)), wv (x / 2 ^ (64 * j + r) % W64)] := by
    rw [← h1]; rfl
  rw [hc, e1, e2] at h
  exact h.mono fun e w' ⟨h1, h2⟩ => ⟨⟨_, h1⟩, h2⟩
end Go.Proofs.YtjggmdlecdbeeaaGreatDoor
