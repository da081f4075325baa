/- Plain: sums, differences, quotients of figures to a base. No program in sight. -/
import Derived.Test.YtgihkmofpncobaaDoorFig
import Derived.Test.YtgihkmofpncobaaDoorNatO
import Derived.Test.YtgihkmofpncobaaDoorRat
namespace Go.Proofs.YtgihkmofpncobaaDoor
set_option linter.unusedVariables false

theorem b4_val : B4 = 10000 := rfl
/-- A figure of a sum, and what is carried. -/
theorem carry_step (x y P : Nat) (hP : 0 < P) : (x + y) / P % B4 = (x / P % B4 + y / P % B4 + (x % P + y % P) / P) % B4 ∧
    (x % (P * B4) + y % (P * B4)) / (P * B4) = (x / P % B4 + y / P % B4 + (x % P + y % P) / P) / B4 := by
  have e1 : (x + y) / P = x / P + y / P + (x % P + y % P) / P := by
    have h1 := Nat.div_add_mod x P
    have h2 := Nat.div_add_mod y P
    have : x + y = (x % P + y % P) + P * (x / P + y / P) := by rw [Nat.mul_add]; omega
    rw [this, Nat.add_mul_div_left _ _ hP]
    omega
  refine ⟨by rw [e1]; unfold B4; omega, ?_⟩
  have h3 : x % (P * B4) = x % P + P * (x / P % B4) := Nat.mod_mul
  have h4 : y % (P * B4) = y % P + P * (y / P % B4) := Nat.mod_mul
  have : x % (P * B4) + y % (P * B4) = (x % P + y % P) + P * (x / P % B4 + y / P % B4) := by rw [h3, h4, Nat.mul_add]; omega
  rw [← Nat.div_div_eq_div_mul, this, Nat.add_mul_div_left _ _ hP]
  congr 1
  omega
/-- What is borrowed. -/
def bor (x y P : Nat) : Nat := if x % P < y % P then 1 else 0
theorem bor_one (x y : Nat) : bor x y 1 = 0 := by simp [bor, Nat.mod_one]
theorem bor_le (x y P : Nat) : bor x y P ≤ 1 := by unfold bor; split <;> omega
theorem borrow_step (x y P : Nat) (hP : 0 < P) (hxy : y ≤ x) :
    (x / P % B4 < y / P % B4 + bor x y P → (x - y) / P % B4 + (y / P % B4 + bor x y P) = x / P % B4 + B4 ∧ bor x y (P * B4) = 1) ∧
    (y / P % B4 + bor x y P ≤ x / P % B4 → (x - y) / P % B4 + (y / P % B4 + bor x y P) = x / P % B4 ∧ bor x y (P * B4) = 0) := by
  have h1 := Nat.div_add_mod x P
  have h2 := Nat.div_add_mod y P
  have l1 := Nat.mod_lt x hP
  have l2 := Nat.mod_lt y hP
  have hd : y / P ≤ x / P := Nat.div_le_div_right hxy
  have e1 : (x - y) / P = x / P - y / P - bor x y P ∧ (bor x y P = 1 → y / P < x / P) := by
    unfold bor
    by_cases h : x % P < y % P
    · rw [if_pos h]
      have hlt : y / P < x / P := by
        rcases Nat.lt_or_ge (y / P) (x / P) with h' | h'
        · exact h'
        · exfalso
          have : P * (x / P) ≤ P * (y / P) := Nat.mul_le_mul_left _ h'
          omega
      refine ⟨?_, fun _ => hlt⟩
      obtain ⟨k, hk⟩ : ∃ k, x / P = y / P + 1 + k := ⟨x / P - y / P - 1, by omega⟩
      have : x - y = (P + x % P - y % P) + P * k := by
        rw [hk] at h1
        rw [Nat.mul_add, Nat.mul_add, Nat.mul_one] at h1
        omega
      rw [this, Nat.add_mul_div_left _ _ hP, Nat.div_eq_of_lt (by omega)]
      omega
    · rw [if_neg h]
      refine ⟨?_, fun h => by omega⟩
      obtain ⟨k, hk⟩ : ∃ k, x / P = y / P + k := ⟨x / P - y / P, by omega⟩
      have : x - y = (x % P - y % P) + P * k := by
        rw [hk] at h1
        rw [Nat.mul_add] at h1
        omega
      rw [this, Nat.add_mul_div_left _ _ hP, Nat.div_eq_of_lt (by omega)]
      omega
  have hb := bor_le x y P
  have h3 : x % (P * B4) = x % P + P * (x / P % B4) := Nat.mod_mul
  have h4 : y % (P * B4) = y % P + P * (y / P % B4) := Nat.mod_mul
  have hm : bor x y P = 1 → x % P < y % P := fun h => by unfold bor at h; split at h <;> omega
  have hm0 : bor x y P = 0 → y % P ≤ x % P := fun h => by unfold bor at h; split at h <;> omega
  constructor
  · intro h
    refine ⟨?_, ?_⟩
    · rw [e1.1]
      have := e1.2
      unfold B4 at *
      omega
    · have : x % (P * B4) < y % (P * B4) := by
        rw [h3, h4]
        rcases Nat.lt_or_ge (x / P % B4) (y / P % B4) with hlt | hge
        · have : P * (x / P % B4) + P ≤ P * (y / P % B4) := by rw [← Nat.mul_succ]; exact Nat.mul_le_mul_left _ hlt
          omega
        · have he : x / P % B4 = y / P % B4 := by omega
          rw [he]
          have := hm (by omega)
          omega
      unfold bor
      rw [if_pos this]
  · intro h
    refine ⟨?_, ?_⟩
    · rw [e1.1]
      have := e1.2
      unfold B4 at *
      omega
    · have : ¬ x % (P * B4) < y % (P * B4) := by
        rw [h3, h4]
        rcases Nat.lt_or_ge (y / P % B4) (x / P % B4) with hlt | hge
        · have : P * (y / P % B4) + P ≤ P * (x / P % B4) := by rw [← Nat.mul_succ]; exact Nat.mul_le_mul_left _ hlt
          omega
        · have he : x / P % B4 = y / P % B4 := by omega
          rw [he]
          have := hm0 (by omega)
          omega
      unfold bor
      rw [if_neg this]
/-- A figure of a quotient, and what is left. -/
theorem half_step (x d P : Nat) (hd : 0 < d) (hP : 0 < P) : (x / (P * B4) % d * B4 + x / P % B4) / d = x / d / P % B4 ∧ (x / (P * B4) % d * B4 + x / P % B4) % d = x / P % d ∧ x / (P * B4) % d * B4 + x / P % B4 < d * B4 := by
  have ea : x / (P * B4) = x / P / B4 := (Nat.div_div_eq_div_mul x P B4).symm
  have eq : x / d / P = x / P / d := by rw [Nat.div_div_eq_div_mul, Nat.mul_comm, ← Nat.div_div_eq_div_mul]
  rw [ea, eq]
  generalize x / P = z
  have hz : z = z / B4 * B4 + z % B4 := by have := Nat.div_add_mod z B4; rw [Nat.mul_comm] at this; omega
  generalize ha : z / B4 = a at *
  have hf : z % B4 < B4 := Nat.mod_lt _ (by decide)
  generalize z % B4 = f at *
  have hm := Nat.div_add_mod a d
  have hml := Nat.mod_lt a hd
  have hlt : a % d * B4 + f < d * B4 := by
    have : (a % d + 1) * B4 ≤ d * B4 := Nat.mul_le_mul_right _ hml
    rw [Nat.add_mul] at this
    omega
  have hz2 : z = (a % d * B4 + f) + d * (a / d * B4) := by
    have : a * B4 = (d * (a / d) + a % d) * B4 := by rw [hm]
    rw [Nat.add_mul, Nat.mul_assoc] at this
    omega
  refine ⟨?_, ?_, hlt⟩
  · rw [hz2, Nat.add_mul_div_left _ _ hd]
    have hq : (a % d * B4 + f) / d < B4 := by rw [Nat.div_lt_iff_lt_mul hd, Nat.mul_comm B4 d]; exact hlt
    rw [Nat.add_mul_mod_self_right, Nat.mod_eq_of_lt hq]
  · rw [hz2, Nat.add_mul_mod_self_left]
end Go.Proofs.YtgihkmofpncobaaDoor
