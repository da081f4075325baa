/- Numbers of 128 bits: the contracts of package wide's pairs. -/
import Derived.Test.YtjggmdlecdbeeaaGreatDoorDiv
import Derived.Test.YtjggmdlecdbeeaaGreatDoorTyped
namespace Go.Proofs.YtjggmdlecdbeeaaGreatDoor
open Go.RowKit
set_option linter.unusedSimpArgs false
set_option linter.unusedVariables false

/-- Two to the power 128. -/
def P128 : Nat := W64 * W64
def pHi (N : Nat) : Nat := N / W64
def pLo (N : Nat) : Nat := N % W64
/-- A number of 128 bits as a value of the program. -/
def pv (N : Nat) : Value := .agg #[wv (pHi N), wv (pLo N)]
theorem pHi_lt {N : Nat} (h : N < P128) : pHi N < W64 := by unfold pHi P128 at *; exact Nat.div_lt_of_lt_mul h
theorem pLo_lt (N : Nat) : pLo N < W64 := Nat.mod_lt _ (by unfold W64; omega)
theorem p_eq (N : Nat) : W64 * pHi N + pLo N = N := Nat.div_add_mod _ _
theorem pHi_mk {h l : Nat} (hl : l < W64) : pHi (W64 * h + l) = h := by
  unfold pHi
  rw [Nat.mul_add_div (by unfold W64; omega), Nat.div_eq_of_lt hl, Nat.add_zero]
theorem pLo_mk {h l : Nat} (hl : l < W64) : pLo (W64 * h + l) = l := by
  unfold pLo
  rw [Nat.mul_add_mod, Nat.mod_eq_of_lt hl]
theorem p_lt {h l : Nat} (hh : h < W64) (hl : l < W64) : W64 * h + l < P128 := by unfold P128 W64 at *; omega

theorem padd_eq (N M : Nat) (hN : N < P128) (hM : M < P128) : pHi ((N + M) % P128) = addLo (pHi N) (pHi M) (addHi (pLo N) (pLo M) 0) ∧ pLo ((N + M) % P128) = addLo (pLo N) (pLo M) 0 ∧
    decide (P128 ≤ N + M) = ((addHi (pHi N) (pHi M) (addHi (pLo N) (pLo M) 0) : Int) == 1) := by
  refine ⟨by unfold pHi pLo addLo addHi P128 W64 at *; omega, by unfold pLo addLo P128 W64 at *; omega, ?_⟩
  rw [Bool.eq_iff_iff, decide_eq_true_iff, beq_iff_eq]
  unfold pHi pLo addHi P128 W64 at *
  omega
theorem psub_eq (N M : Nat) (hN : N < P128) (hM : M < P128) : pHi ((N + P128 - M) % P128) = subLo (pHi N) (pHi M) (subHi (pLo N) (pLo M) 0) ∧ pLo ((N + P128 - M) % P128) = subLo (pLo N) (pLo M) 0 ∧
    decide (N < M) = ((subHi (pHi N) (pHi M) (subHi (pLo N) (pLo M) 0) : Int) == 1) := by
  refine ⟨?_, ?_, ?_⟩
  · unfold subLo subHi pHi pLo P128 W64 at *
    split <;> omega
  · unfold subLo pLo P128 W64 at *
    omega
  · rw [Bool.eq_iff_iff, decide_eq_true_iff, beq_iff_eq]
    unfold subHi pHi pLo P128 W64 at *
    split <;> split <;> omega
end Go.Proofs.YtjggmdlecdbeeaaGreatDoor
