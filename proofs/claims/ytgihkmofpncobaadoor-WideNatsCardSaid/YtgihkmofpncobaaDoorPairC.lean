/- Numbers of 128 bits: the contracts of package wide's division and comparison of pairs; the comparison of natural numbers. -/
import Derived.Test.YtgihkmofpncobaaDoorPairB
import Derived.Test.YtgihkmofpncobaaDoorNatC
import Derived.Deep.QuietTactic
import Derived.BigQuiet
namespace Go.Proofs.YtgihkmofpncobaaDoor
open Go.RowKit
set_option linter.unusedSimpArgs false
set_option linter.unusedVariables false

theorem pdiv_eq (N d : Nat) (hd : 0 < d) (hd' : d < W64) : pHi (N / d) = pHi N / d ∧ pLo (N / d) = ((pHi N % d) * W64 + pLo N) / d ∧ N % d = ((pHi N % d) * W64 + pLo N) % d := by
  have hW0 : 0 < W64 := by unfold W64; omega
  have h := p_eq N
  have e1 := Nat.div_add_mod (pHi N) d
  have e2 : N = d * (W64 * (pHi N / d)) + ((pHi N % d) * W64 + pLo N) := by
    rw [Nat.mul_left_comm, Nat.mul_comm (pHi N % d), ← Nat.add_assoc, ← Nat.mul_add, e1, h]
  have hm := Nat.mod_lt (pHi N) hd
  have hq : ((pHi N % d) * W64 + pLo N) / d < W64 := by
    rw [Nat.div_lt_iff_lt_mul hd, Nat.mul_comm W64]
    have h1 : (pHi N % d + 1) * W64 ≤ d * W64 := Nat.mul_le_mul_right _ hm
    rw [Nat.add_mul, Nat.one_mul] at h1
    have := pLo_lt N
    omega
  have e3 : N / d = W64 * (pHi N / d) + ((pHi N % d) * W64 + pLo N) / d := by
    have : N / d = (d * (W64 * (pHi N / d)) + ((pHi N % d) * W64 + pLo N)) / d := by rw [← e2]
    rw [this, Nat.mul_add_div hd]
  have e4 : N % d = ((pHi N % d) * W64 + pLo N) % d := by
    have : N % d = (d * (W64 * (pHi N / d)) + ((pHi N % d) * W64 + pLo N)) % d := by rw [← e2]
    rw [this, Nat.mul_add_mod]
  rw [e3, pHi_mk hq, pLo_mk hq]
  exact ⟨rfl, rfl, e4⟩

/-- How two numbers stand. -/
def cmpI (N M : Nat) : Int := if N = M then 0 else if N < M then -1 else 1
theorem pcmp (N M : Nat) (hN : N < P128) (hM : M < P128) : (N = M ↔ pHi N = pHi M ∧ pLo N = pLo M) ∧ (N < M ↔ pHi N < pHi M ∨ pHi N = pHi M ∧ pLo N < pLo M) := by
  unfold pHi pLo P128 W64 at *
  constructor <;> constructor <;> intro h <;> omega

end Go.Proofs.YtgihkmofpncobaaDoor
