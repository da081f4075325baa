/- Plain: letters read bit by bit. No program in sight. -/
import Derived.Test.YtdlplmflimleaaaBaseQ
namespace Go.Proofs.Ytdlplmflimleaaa
set_option linter.unusedVariables false

/-- The bytes' number behind P bits of a number U of T bits, of which n bytes are made. -/
def bY (n T U P : Nat) : Nat := U / 2 ^ (T - min P (8 * n)) * 2 ^ (8 * n - min P (8 * n))
/-- The bits behind the last whole byte are noughts so far. -/
def bZ (n T U P : Nat) : Prop := 8 * n < P → U / 2 ^ (T - P) % 2 ^ (P - 8 * n) = 0

theorem bY_zero (n T U : Nat) (hU : U < 2 ^ T) : bY n T U 0 = 0 := by
  unfold bY
  rw [show min 0 (8 * n) = 0 by omega, Nat.sub_zero, Nat.div_eq_of_lt hU, Nat.zero_mul]
theorem bit_split (U T P : Nat) (h : P < T) : U / 2 ^ (T - (P + 1)) = 2 * (U / 2 ^ (T - P)) + U / 2 ^ (T - P - 1) % 2 := by
  have e : U / 2 ^ (T - P) = U / 2 ^ (T - P - 1) / 2 := by
    rw [Nat.div_div_eq_div_mul, ← Nat.pow_succ]; congr 2; omega
  rw [e, show T - (P + 1) = T - P - 1 by omega]
  omega
theorem bit_off (n T U P : Nat) (hT : 8 * n ≤ T) (hP : P < T) (hb : U / 2 ^ (T - P - 1) % 2 = 0) (hz : bZ n T U P) : bY n T U (P + 1) = bY n T U P ∧ bZ n T U (P + 1) := by
  have hs := bit_split U T P hP
  have hs' : U / 2 ^ (T - (P + 1)) = 2 * (U / 2 ^ (T - P)) := by omega
  constructor
  · unfold bY
    by_cases h : P < 8 * n
    · rw [show min (P + 1) (8 * n) = P + 1 by omega, show min P (8 * n) = P by omega, hs', show 8 * n - P = (8 * n - (P + 1)) + 1 by omega, Nat.pow_succ]
      generalize 2 ^ (8 * n - (P + 1)) = X
      rw [Nat.mul_comm 2, Nat.mul_assoc, Nat.mul_comm 2]
    · rw [show min (P + 1) (8 * n) = 8 * n by omega, show min P (8 * n) = 8 * n by omega]
  · intro h
    by_cases h8 : 8 * n < P
    · have := letter_step U (T - P) (P - 8 * n) (by omega)
      rw [hz h8, hb] at this
      rw [show T - (P + 1) = T - P - 1 by omega, show P + 1 - 8 * n = P - 8 * n + 1 by omega]
      exact this
    · obtain rfl : P = 8 * n := by omega
      rw [show T - (8 * n + 1) = T - 8 * n - 1 by omega, show 8 * n + 1 - 8 * n = 1 by omega]
      simpa using hb
theorem bit_on (n T U P : Nat) (hT : 8 * n ≤ T) (hP : P < 8 * n) (hb : U / 2 ^ (T - P - 1) % 2 = 1) : bY n T U (P + 1) = bY n T U P + 2 ^ (8 * n - P - 1) ∧ bY n T U P % 2 ^ (8 * n - P - 1 + 1) = 0 ∧ bZ n T U (P + 1) := by
  have hs := bit_split U T P (by omega)
  rw [hb] at hs
  refine ⟨?_, ?_, fun h => by omega⟩
  · unfold bY
    rw [show min (P + 1) (8 * n) = P + 1 by omega, show min P (8 * n) = P by omega, hs, show 8 * n - P = (8 * n - (P + 1)) + 1 by omega, Nat.pow_succ, show 8 * n - (P + 1) + 1 - 1 = 8 * n - (P + 1) by omega]
    generalize 2 ^ (8 * n - (P + 1)) = X
    rw [Nat.add_mul, Nat.one_mul, Nat.mul_comm 2, Nat.mul_assoc, Nat.mul_comm 2]
  · unfold bY
    rw [show min P (8 * n) = P by omega, show 8 * n - P - 1 + 1 = 8 * n - P by omega, Nat.mul_mod_left]
theorem bit_rest (n T U P : Nat) (hT : 8 * n ≤ T) (h8 : 8 * n ≤ P) (hP : P < T) (hb : U / 2 ^ (T - P - 1) % 2 = 1) : U % 2 ^ (T - 8 * n) ≠ 0 := by
  intro h
  have := field_bit U (T - P - 1) (T - 8 * n) (by omega)
  rw [h, hb] at this
  simp at this
theorem bY_end (n T U : Nat) (hT : 8 * n ≤ T) (hz : bZ n T U T) : bY n T U T = U / 2 ^ (T - 8 * n) ∧ U % 2 ^ (T - 8 * n) = 0 := by
  constructor
  · unfold bY
    rw [show min T (8 * n) = 8 * n by omega]; simp
  · by_cases h : 8 * n < T
    · have := hz h
      simpa using this
    · rw [show T - 8 * n = 0 by omega]; simp [Nat.mod_one]
theorem digs_zero (n : Nat) : digs 256 n 0 = List.replicate n 0 := by
  induction n with
  | zero => rfl
  | succ n ih => rw [digs, ih, List.replicate_succ']

/-- The bit of a letter is the bit of the number. -/
theorem letter_bit (a : Int) (k : Nat) (hk : Bt a = k) (h0 : k = 4 ∨ k = 5 ∨ k = 6) (s : List UInt8) (hall : ∀ c ∈ s, 0 ≤ Nm a c) (i j : Nat) (hi : i < s.length) (hj : j < k) :
    (Nm a s[i]).toNat / 2 ^ (k - 1 - j) % 2 = rU a k s / 2 ^ (k * s.length - (i * k + j) - 1) % 2 := by
  have h1 := digs_num (2 ^ k) (nms a s) (nms_lt a k hk h0 s hall)
  have hl : (nms a s).length = s.length := by simp [nms]
  rw [hl] at h1
  have h2 := digs_get (2 ^ k) s.length (rU a k s) i hi
  unfold rU at h2
  rw [h1] at h2
  have h3 : (nms a s)[i]? = some (Nm a s[i]).toNat := by simp [nms, hi]
  rw [h3] at h2
  injection h2 with h2
  rw [h2, ← Nat.pow_mul]
  rw [field_bit _ (k - 1 - j) k (by omega), Nat.div_div_eq_div_mul, ← Nat.pow_add]
  unfold rU
  congr 3
  have e1 : k * (s.length - 1 - i) = k * s.length - k - k * i := by rw [Nat.mul_sub, Nat.mul_sub, Nat.mul_one]
  have e2 : k * i + k ≤ k * s.length := by rw [← Nat.mul_succ]; exact Nat.mul_le_mul_left _ hi
  rw [e1, Nat.mul_comm i k]
  omega
end Go.Proofs.Ytdlplmflimleaaa
