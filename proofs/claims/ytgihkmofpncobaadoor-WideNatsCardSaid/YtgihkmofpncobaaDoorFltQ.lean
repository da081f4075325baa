/- Plain law of floats: sizes in units of 2^-1074, the greatest one not above a quotient. A float's bits as a whole number times a power of two; plain law of its size and of the half of the gap above it. -/
import Derived.Test.YtgihkmofpncobaaDoorPairC
import Derived.Test.YtgihkmofpncobaaDoorNatO
namespace Go.Proofs.YtgihkmofpncobaaDoor
set_option linter.unusedVariables false
set_option linter.unusedSimpArgs false

def P52 : Nat := 4503599627370496
theorem P52_pow : P52 = 2 ^ 52 := by decide
/-- The size of the float of bits b, in units of 2^-1074. -/
def Fl (b : Nat) : Nat := if b < P52 then b else (P52 + b % P52) * 2 ^ (b / P52 - 1)
theorem Fl_at {j m : Nat} (h : j = 0 ∨ P52 ≤ m) (hm : m < 2 * P52) : Fl (j * P52 + m) = m * 2 ^ j := by
  have hp : 0 < P52 := by unfold P52; omega
  rcases Nat.lt_or_ge m P52 with h1 | h1
  · obtain rfl : j = 0 := by omega
    unfold Fl
    rw [if_pos (by omega)]; simp
  · have e1 : j * P52 + m = (m - P52) + P52 * (j + 1) := by rw [Nat.mul_add, Nat.mul_comm P52 j]; omega
    have e2 : ¬ j * P52 + m < P52 := by omega
    unfold Fl
    rw [if_neg e2, e1, Nat.add_mul_mod_self_left, Nat.mod_eq_of_lt (by omega), Nat.add_mul_div_left _ _ hp, Nat.div_eq_of_lt (by omega)]
    rw [show P52 + (m - P52) = m by omega, show 0 + (j + 1) - 1 = j by omega]
theorem Fl_next {j m : Nat} (h : j = 0 ∨ P52 ≤ m) (hm : m < 2 * P52) : Fl (j * P52 + m + 1) = (m + 1) * 2 ^ j := by
  rcases Nat.lt_or_ge (m + 1) (2 * P52) with h1 | h1
  · have := Fl_at (j := j) (m := m + 1) (by omega) h1
    rwa [← Nat.add_assoc] at this
  · have e : m + 1 = 2 * P52 := by omega
    have e2 : j * P52 + m + 1 = (j + 1) * P52 + P52 := by rw [Nat.add_mul]; omega
    rw [e2, Fl_at (.inr (Nat.le_refl _)) (by unfold P52; omega), e, Nat.pow_succ, Nat.mul_comm 2 P52, Nat.mul_assoc, Nat.mul_comm 2 (2 ^ j)]
theorem Fl_form (b : Nat) : ∃ j m, b = j * P52 + m ∧ (j = 0 ∨ P52 ≤ m) ∧ m < 2 * P52 := by
  have hp : 0 < P52 := by unfold P52; omega
  rcases Nat.lt_or_ge b P52 with h | h
  · exact ⟨0, b, by omega, .inl rfl, by omega⟩
  · have h1 := Nat.div_add_mod b P52
    have h2 := Nat.mod_lt b hp
    have h3 : 1 ≤ b / P52 := (Nat.le_div_iff_mul_le hp).2 (by omega)
    refine ⟨b / P52 - 1, P52 + b % P52, ?_, .inr (by omega), by omega⟩
    obtain ⟨k, hk⟩ : ∃ k, b / P52 = k + 1 := ⟨b / P52 - 1, by omega⟩
    rw [hk] at h1 ⊢
    rw [Nat.mul_add, Nat.mul_comm P52 k] at h1
    simp only [Nat.add_sub_cancel]
    omega
theorem Fl_up (b : Nat) : Fl b < Fl (b + 1) := by
  obtain ⟨j, m, rfl, h1, h2⟩ := Fl_form b
  rw [Fl_at h1 h2, Fl_next h1 h2]
  exact Nat.mul_lt_mul_of_pos_right (by omega) (Nat.pow_pos (by omega))
theorem Fl_add (b k : Nat) : Fl b + k ≤ Fl (b + k) := by
  induction k with
  | zero => exact Nat.le_refl _
  | succ k ih =>
    have := Fl_up (b + k)
    show Fl b + (k + 1) ≤ Fl (b + k + 1)
    omega
theorem Fl_lt {a b : Nat} : Fl a < Fl b ↔ a < b := by
  constructor
  · intro h
    rcases Nat.lt_or_ge a b with h1 | h1
    · exact h1
    · obtain ⟨k, rfl⟩ := Nat.exists_eq_add_of_le h1
      have := Fl_add b k
      omega
  · intro h
    obtain ⟨k, rfl⟩ := Nat.exists_eq_add_of_lt h
    have := Fl_add a (k + 1)
    rw [Nat.add_assoc]
    omega
theorem Fl_le {a b : Nat} : Fl a ≤ Fl b ↔ a ≤ b := by
  have := Fl_lt (a := b) (b := a)
  omega
theorem Fl_inj {a b : Nat} (h : Fl a = Fl b) : a = b := by
  have h1 := Fl_le (a := a) (b := b)
  have h2 := Fl_le (a := b) (b := a)
  omega
theorem Fl_zero : Fl 0 = 0 := rfl

/-- The greatest float not above T. -/
def flT (T : Nat) : Nat := (blen T - 53) * P52 + T / 2 ^ (blen T - 53)
theorem flT_m (T : Nat) : (blen T - 53 = 0 ∨ P52 ≤ T / 2 ^ (blen T - 53)) ∧ T / 2 ^ (blen T - 53) < 2 * P52 := by
  have hb := blen_div T (blen T - 53)
  have h53 : 2 * P52 = 2 ^ 53 := by decide
  rw [h53, ← blen_le, hb]
  refine ⟨?_, by omega⟩
  rcases Nat.lt_or_ge 53 (blen T) with h | h
  · right
    have h1 : blen (T / 2 ^ (blen T - 53)) = 53 := by omega
    have h2 := blen_ge (x := T / 2 ^ (blen T - 53)) (by intro h0; rw [h0] at h1; simp [blen_zero] at h1)
    rw [h1] at h2
    exact h2
  · left; omega
theorem flT_le (T : Nat) : Fl (flT T) ≤ T := by
  unfold flT
  rw [Fl_at (flT_m T).1 (flT_m T).2]
  exact Nat.div_mul_le_self _ _
theorem flT_lt (T : Nat) : T < Fl (flT T + 1) := by
  unfold flT
  rw [Fl_next (flT_m T).1 (flT_m T).2]
  have h := Nat.lt_mul_div_succ T (show 0 < 2 ^ (blen T - 53) from Nat.pow_pos (by omega))
  rwa [Nat.mul_comm] at h
theorem flT_iff {b T : Nat} : b ≤ flT T ↔ Fl b ≤ T := by
  constructor
  · intro h
    exact Nat.le_trans (Fl_le.2 h) (flT_le T)
  · intro h
    have h1 : Fl b < Fl (flT T + 1) := Nat.lt_of_le_of_lt h (flT_lt T)
    rw [Fl_lt] at h1
    omega

def most : Nat := 9218868437227405311
/-- A quotient, cut: the float below it, how it stands to the half of the gap, whether it is that float. -/
def cutB (A B : Nat) : Nat := min (flT (A * 2 ^ 1074 / B)) most
def cutP (A B : Nat) : Nat × Int × Bool :=
  (cutB A B, cmpI (2 * (A * 2 ^ 1074)) ((Fl (cutB A B) + Fl (cutB A B + 1)) * B), decide (Fl (cutB A B) * B = A * 2 ^ 1074))

theorem cmpI_lt {a b : Nat} (h : a < b) : cmpI a b = -1 := by unfold cmpI; rw [if_neg (by omega), if_pos h]
theorem cmpI_gt {a b : Nat} (h : b < a) : cmpI a b = 1 := by unfold cmpI; rw [if_neg (by omega), if_neg (by omega)]
theorem cmpI_eq (a : Nat) : cmpI a a = 0 := by unfold cmpI; rw [if_pos rfl]
theorem cmpI_mul {a b c : Nat} (hc : 0 < c) : cmpI (a * c) (b * c) = cmpI a b := by
  rcases Nat.lt_trichotomy a b with h | h | h
  · rw [cmpI_lt h, cmpI_lt (Nat.mul_lt_mul_of_pos_right h hc)]
  · rw [h, cmpI_eq, cmpI_eq]
  · rw [cmpI_gt h, cmpI_gt (Nat.mul_lt_mul_of_pos_right h hc)]
theorem cmpI_tri (a b : Nat) : a < b ∧ cmpI a b = -1 ∨ a = b ∧ cmpI a b = 0 ∨ b < a ∧ cmpI a b = 1 := by
  rcases Nat.lt_trichotomy a b with h | h | h
  · exact .inl ⟨h, cmpI_lt h⟩
  · exact .inr (.inl ⟨h, by rw [h, cmpI_eq]⟩)
  · exact .inr (.inr ⟨h, cmpI_gt h⟩)
theorem cmpI_range (a b : Nat) : cmpI a b = -1 ∨ cmpI a b = 0 ∨ cmpI a b = 1 := by
  rcases cmpI_tri a b with ⟨_, h⟩ | ⟨_, h⟩ | ⟨_, h⟩ <;> rw [h] <;> decide

set_option maxRecDepth 20000 in
/-- What the quotient's digits tell. -/
theorem ratio_law {A B u1 u2 K j q r : Nat} (hB : 0 < B) (hq : q = A * 2 ^ u1 / (B * 2 ^ u2)) (hr : r = A * 2 ^ u1 % (B * 2 ^ u2)) (hK : 0 < K) (hKj : K + u2 + 1074 = j + u1)
    (hj : blen q ≤ K + 53 ∧ j = 0 ∨ blen q = K + 53) :
    flT (A * 2 ^ 1074 / B) = j * P52 + q / 2 ^ K ∧ (j = 0 ∨ P52 ≤ q / 2 ^ K) ∧ q / 2 ^ K < 2 * P52 ∧
    cmpI (2 * (A * 2 ^ 1074)) ((2 * (q / 2 ^ K) + 1) * 2 ^ j * B) = (if q / 2 ^ (K - 1) % 2 = 1 then (if q % 2 ^ (K - 1) ≠ 0 ∨ r ≠ 0 then 1 else 0) else -1) ∧
    (q / 2 ^ K * 2 ^ j * B = A * 2 ^ 1074 ↔ q % 2 ^ K = 0 ∧ r = 0) := by
  generalize (1074 : Nat) = N at *
  have p : ∀ k, 0 < 2 ^ k := fun k => Nat.pow_pos (by omega)
  have hd : 0 < B * 2 ^ u2 := Nat.mul_pos hB (p _)
  have hpow : 2 ^ K * 2 ^ u2 * 2 ^ N = 2 ^ j * 2 ^ u1 := by rw [← Nat.pow_add, ← Nat.pow_add, ← Nat.pow_add, hKj]
  generalize hX : 2 ^ N = X at *
  have hXp : 0 < X := by rw [← hX]; exact p _
  have hm : q / 2 ^ K = A * X / B / 2 ^ j := by
    rw [hq, Nat.div_div_eq_div_mul, Nat.div_div_eq_div_mul]
    rw [← Nat.mul_div_mul_right (A * 2 ^ u1) (B * 2 ^ u2 * 2 ^ K) hXp, ← Nat.mul_div_mul_right (A * X) (B * 2 ^ j) (p u1)]
    congr 1
    · rw [Nat.mul_assoc, Nat.mul_assoc, Nat.mul_comm X]
    · rw [Nat.mul_assoc B, Nat.mul_assoc B, Nat.mul_assoc B, ← hpow, Nat.mul_comm (2 ^ u2)]
  have hbm := blen_div q K
  have hbT := blen_div (A * X / B) j
  rw [← hm, hbm] at hbT
  have hjT : blen (A * X / B) - 53 = j := by omega
  have hT := flT_m (A * X / B)
  rw [hjT, ← hm] at hT
  refine ⟨by unfold flT; rw [hjT, ← hm], hT.1, hT.2, ?_, ?_⟩
  · have hn := Nat.div_add_mod (A * 2 ^ u1) (B * 2 ^ u2)
    rw [← hq, ← hr] at hn
    have hrl : r < B * 2 ^ u2 := by rw [hr]; exact Nat.mod_lt _ hd
    obtain ⟨k, rfl⟩ : ∃ k, K = k + 1 := ⟨K - 1, by omega⟩
    rw [Nat.add_sub_cancel]
    rw [← cmpI_mul (p u1), Nat.mul_assoc 2, show A * X * 2 ^ u1 = A * 2 ^ u1 * X by rw [Nat.mul_assoc, Nat.mul_assoc, Nat.mul_comm X], ← hn]
    rw [show (2 * (q / 2 ^ (k + 1)) + 1) * 2 ^ j * B * 2 ^ u1 = (2 * (q / 2 ^ (k + 1)) + 1) * 2 ^ (k + 1) * (B * 2 ^ u2) * X by
      rw [Nat.mul_assoc, Nat.mul_assoc, Nat.mul_comm B, ← Nat.mul_assoc (2 ^ j), ← hpow]
      simp only [Nat.mul_comm, Nat.mul_left_comm, Nat.mul_assoc]]
    rw [← Nat.mul_assoc, cmpI_mul hXp]
    generalize B * 2 ^ u2 = d at *
    have h1 : q / 2 ^ (k + 1) = q / 2 ^ k / 2 := by rw [Nat.pow_succ, Nat.div_div_eq_div_mul]
    have h2 := Nat.div_add_mod q (2 ^ k)
    have h3 := Nat.mod_lt q (p k)
    have h4 := Nat.div_add_mod (q / 2 ^ k) 2
    have hbl := Nat.mod_lt (q / 2 ^ k) (show 2 > 0 by omega)
    rw [h1, Nat.pow_succ]
    have hP := p k
    generalize 2 ^ k = P at *
    generalize q % P = s at *
    generalize q / P % 2 = b at *
    generalize q / P / 2 = m at *
    rw [← h4] at h2
    have h5 : 2 * (d * q + r) = (2 * m + 1) * (P * 2) * d + (2 * (s * d) + 2 * r + 2 * (b * P * d)) - 2 * (P * d) ∧ 2 * (P * d) ≤ (2 * m + 1) * (P * 2) * d + (2 * (s * d) + 2 * r + 2 * (b * P * d)) := by
      have e : d * q = 2 * (m * P * d) + b * P * d + s * d := by
        rw [← h2]
        simp only [Nat.mul_add, Nat.mul_comm, Nat.mul_left_comm, Nat.mul_assoc]
      have e2 : (2 * m + 1) * (P * 2) * d = 4 * (m * P * d) + 2 * (P * d) := by
        rw [show (4 : Nat) = 2 * 2 from rfl]
        simp only [Nat.mul_add, Nat.add_mul, Nat.mul_comm, Nat.mul_left_comm, Nat.mul_assoc, Nat.one_mul, Nat.mul_one]
      omega
    have hb : b = 0 ∨ b = 1 := by omega
    rcases hb with rfl | rfl
    · rw [if_neg (by decide)]
      have h6 : (s + 1) * d ≤ P * d := Nat.mul_le_mul_right _ (by omega)
      rw [Nat.add_mul] at h6
      simp only [Nat.zero_mul, Nat.mul_zero, Nat.add_zero, Nat.one_mul] at h5 h6
      exact cmpI_lt (by omega)
    · rw [if_pos rfl]
      rw [Nat.one_mul] at h5
      by_cases hz : s ≠ 0 ∨ r ≠ 0
      · rw [if_pos hz]
        have h7 : s ≠ 0 → 0 < s * d := fun h => Nat.mul_pos (by omega) (by omega)
        exact cmpI_gt (by omega)
      · rw [if_neg hz]
        have hs : s = 0 := by omega
        have hr0 : r = 0 := by omega
        subst hs
        rw [hr0] at h5 ⊢
        rw [Nat.zero_mul] at h5
        rw [show 2 * (d * q + 0) = (2 * m + 1) * (P * 2) * d by omega, cmpI_eq]
  · have hn := Nat.div_add_mod (A * 2 ^ u1) (B * 2 ^ u2)
    rw [← hq, ← hr] at hn
    have h1 : q / 2 ^ K * 2 ^ j * B = A * X ↔ q / 2 ^ K * 2 ^ K * (B * 2 ^ u2) = A * 2 ^ u1 := by
      rw [← Nat.mul_left_inj (Nat.pos_iff_ne_zero.1 (p u1)), ← Nat.mul_left_inj (Nat.pos_iff_ne_zero.1 hXp) (b := q / 2 ^ K * 2 ^ K * (B * 2 ^ u2))]
      rw [show q / 2 ^ K * 2 ^ j * B * 2 ^ u1 = q / 2 ^ K * 2 ^ K * (B * 2 ^ u2) * X by
        rw [Nat.mul_assoc, Nat.mul_assoc, Nat.mul_comm B, ← Nat.mul_assoc (2 ^ j), ← hpow]
        simp only [Nat.mul_comm, Nat.mul_left_comm, Nat.mul_assoc], show A * X * 2 ^ u1 = A * 2 ^ u1 * X by rw [Nat.mul_assoc, Nat.mul_assoc, Nat.mul_comm X]]
    rw [h1, ← hn]
    have h2 := Nat.div_add_mod q (2 ^ K)
    generalize B * 2 ^ u2 = d at *
    generalize 2 ^ K = P at *
    rw [Nat.mul_comm (q / P) P]
    generalize P * (q / P) = m at *
    generalize q % P = s at *
    rw [← h2, Nat.mul_comm d, Nat.add_mul]
    constructor
    · intro h
      have h3 : s * d = 0 ∧ r = 0 := by omega
      refine ⟨?_, h3.2⟩
      rcases Nat.mul_eq_zero.1 h3.1 with h | h <;> omega
    · rintro ⟨rfl, rfl⟩
      omega

/-- A quotient beyond the floats. -/
theorem cutP_over {A B : Nat} (hB : 0 < B) (h : most < flT (A * 2 ^ 1074 / B)) : cutP A B = (most, 1, false) := by
  have hb : cutB A B = most := by unfold cutB; omega
  have h1 : Fl (most + 1) ≤ A * 2 ^ 1074 / B := flT_iff.1 h
  rw [Nat.le_div_iff_mul_le hB] at h1
  have h2 := Nat.mul_lt_mul_of_pos_right (Fl_up most) hB
  unfold cutP
  rw [hb]
  generalize A * 2 ^ 1074 = N at *
  rw [Nat.add_mul, cmpI_gt (by omega), decide_eq_false (by omega)]
theorem cutP_at {A B j m : Nat} (h : flT (A * 2 ^ 1074 / B) = j * P52 + m) (hj : j = 0 ∨ P52 ≤ m) (hm : m < 2 * P52) (hl : j * P52 + m ≤ most) :
    cutP A B = (j * P52 + m, cmpI (2 * (A * 2 ^ 1074)) ((2 * m + 1) * 2 ^ j * B), decide (m * 2 ^ j * B = A * 2 ^ 1074)) := by
  have hb : cutB A B = j * P52 + m := by unfold cutB; omega
  unfold cutP
  rw [hb, Fl_at hj hm, Fl_next hj hm]
  rw [show m * 2 ^ j + (m + 1) * 2 ^ j = (2 * m + 1) * 2 ^ j by rw [← Nat.add_mul]; congr 1; omega]
end Go.Proofs.YtgihkmofpncobaaDoor

namespace Go.Proofs.YtgihkmofpncobaaDoor
open Go.RowKit
set_option linter.unusedSimpArgs false
set_option linter.unusedVariables false

def fltM (b : Nat) : Nat := if b / 4503599627370496 = 0 then b % 4503599627370496 else b % 4503599627370496 + 4503599627370496
def fltK (b : Nat) : Int := if b / 4503599627370496 = 0 then -1074 else ((b / 4503599627370496 : Nat) : Int) - 1075
theorem and_low (a k : Nat) (ha : a < W64) (hk : 2 ^ k - 1 < W64) : bits .and .u64 (a : Int) ((2 ^ k - 1 : Nat) : Int) = ((a % 2 ^ k : Nat) : Int) := by
  have h := bits_and_u64_nat a (2 ^ k - 1) ha hk
  rwa [Nat.and_two_pow_sub_one_eq_mod] at h
theorem flt_P52 (b : Nat) : b / 4503599627370496 = 0 ↔ b < P52 := by unfold P52; omega
theorem flt_form (b u : Nat) (hu : u = 1074) : (fltM b : Nat) * 2 ^ (fltK b + (u : Nat)).toNat = Fl b ∧ ((2 * fltM b + 1) * 2 ^ (fltK b + (u : Nat)).toNat = Fl b + Fl (b + 1)) ∧ -1074 ≤ fltK b ∧ (fltM b = 0 ↔ b = 0) := by
  have hm := Nat.div_add_mod b P52
  have hlt : b % P52 < P52 := Nat.mod_lt _ (by decide)
  unfold fltM fltK
  by_cases h : b / 4503599627370496 = 0
  · have h' := (flt_P52 b).1 h
    have hb : b % 4503599627370496 = b := Nat.mod_eq_of_lt (by unfold P52 at h'; exact h')
    rw [if_pos h, if_pos h, hb]
    have e : ((-1074 : Int) + (u : Nat)).toNat = 0 := by omega
    rw [e, Nat.pow_zero, Nat.mul_one, Nat.mul_one]
    have f1 := Fl_at (j := 0) (m := b) (.inl rfl) (by omega)
    have f2 := Fl_next (j := 0) (m := b) (.inl rfl) (by omega)
    rw [Nat.zero_mul, Nat.zero_add, Nat.pow_zero, Nat.mul_one] at f1 f2
    exact ⟨f1.symm, by rw [f1, f2]; omega, by omega, Iff.rfl⟩
  · have hP : P52 = 4503599627370496 := rfl
    rw [if_neg h, if_neg h, ← hP]
    rw [← hP] at h
    obtain ⟨q, hq⟩ : ∃ q, b / P52 = q + 1 := Nat.exists_eq_succ_of_ne_zero h
    rw [hq]
    have e : (((q + 1 : Nat) : Int) - 1075 + (u : Nat)).toNat = q := by omega
    rw [e]
    rw [hq] at hm
    have hb : b = q * P52 + (b % P52 + P52) := by rw [Nat.mul_add, Nat.mul_one, Nat.mul_comm] at hm; omega
    have f1 := Fl_at (j := q) (m := b % P52 + P52) (.inr (by omega)) (by omega)
    have f2 := Fl_next (j := q) (m := b % P52 + P52) (.inr (by omega)) (by omega)
    rw [← hb] at f1 f2
    refine ⟨f1.symm, ?_, by omega, ⟨fun h0 => by omega, fun h0 => by subst h0; simp at h⟩⟩
    rw [f1, f2, ← Nat.add_mul]
    exact congrArg (· * 2 ^ q) (by omega)
/-- The float below. -/
theorem flt_below (b u : Nat) (hu : u = 1074) (hb : 0 < b) :
    (fltM b = 4503599627370496 ∧ -1074 < fltK b → (4 * fltM b - 1) * 2 ^ (fltK b + (u : Nat) - 1).toNat = Fl (b - 1) + Fl b) ∧
    (¬ (fltM b = 4503599627370496 ∧ -1074 < fltK b) → (2 * fltM b - 1) * 2 ^ (fltK b + (u : Nat)).toNat = Fl (b - 1) + Fl b) := by
  have hP : P52 = 4503599627370496 := rfl
  have hm := Nat.div_add_mod b P52
  have hlt : b % P52 < P52 := Nat.mod_lt _ (by decide)
  unfold fltM fltK
  by_cases h : b / 4503599627370496 = 0
  · have h' := (flt_P52 b).1 h
    have hbm : b % 4503599627370496 = b := Nat.mod_eq_of_lt (by unfold P52 at h'; exact h')
    rw [if_pos h, if_pos h, hbm]
    refine ⟨fun hh => by omega, fun _ => ?_⟩
    have e : ((-1074 : Int) + (u : Nat)).toNat = 0 := by omega
    rw [e, Nat.pow_zero, Nat.mul_one]
    have f1 := Fl_at (j := 0) (m := b) (.inl rfl) (by omega)
    have f2 := Fl_at (j := 0) (m := b - 1) (.inl rfl) (by omega)
    rw [Nat.zero_mul, Nat.zero_add, Nat.pow_zero, Nat.mul_one] at f1 f2
    rw [f1, f2]
    omega
  · rw [if_neg h, if_neg h, ← hP]
    rw [← hP] at h
    obtain ⟨q, hq⟩ : ∃ q, b / P52 = q + 1 := Nat.exists_eq_succ_of_ne_zero h
    rw [hq]
    rw [hq] at hm
    have hbe : b = q * P52 + (b % P52 + P52) := by rw [Nat.mul_add, Nat.mul_one, Nat.mul_comm] at hm; omega
    have f1 := Fl_at (j := q) (m := b % P52 + P52) (.inr (by omega)) (by omega)
    rw [← hbe] at f1
    have e1 : (((q + 1 : Nat) : Int) - 1075 + (u : Nat)).toNat = q := by omega
    constructor
    · rintro ⟨h1, h2⟩
      obtain ⟨p, rfl⟩ : ∃ p, q = p + 1 := ⟨q - 1, by omega⟩
      have hz : b % P52 = 0 := by omega
      have hb2 : b - 1 = p * P52 + (2 * P52 - 1) := by
        rw [hz, Nat.zero_add, Nat.add_mul] at hbe
        omega
      have f2 := Fl_at (j := p) (m := 2 * P52 - 1) (.inr (by omega)) (by omega)
      rw [← hb2] at f2
      have e2 : (((p + 1 + 1 : Nat) : Int) - 1075 + (u : Nat) - 1).toNat = p := by omega
      rw [e2, f1, f2, hz, Nat.zero_add, Nat.pow_succ, Nat.mul_comm (2 ^ p) 2, ← Nat.mul_assoc, ← Nat.add_mul]
      exact congrArg (· * 2 ^ p) (by omega)
    · intro h1
      rw [e1]
      have hz : 0 < b % P52 ∨ q = 0 := by
        rcases Nat.eq_zero_or_pos (b % P52) with h2 | h2
        · right
          have : ¬ (b % P52 + P52 = P52 ∧ -1074 < ((q + 1 : Nat) : Int) - 1075) := h1
          omega
        · exact .inl h2
      rcases hz with hz | hz
      · have hb2 : b - 1 = q * P52 + (b % P52 + P52 - 1) := by omega
        have f2 := Fl_at (j := q) (m := b % P52 + P52 - 1) (.inr (by omega)) (by omega)
        rw [← hb2] at f2
        rw [f1, f2, ← Nat.add_mul]
        exact congrArg (· * 2 ^ q) (by omega)
      · subst hz
        have hb2 : b - 1 = 0 * P52 + (b % P52 + P52 - 1) := by omega
        have f2 := Fl_at (j := 0) (m := b % P52 + P52 - 1) (.inl rfl) (by omega)
        rw [← hb2] at f2
        rw [f1, f2, ← Nat.add_mul]
        exact congrArg (· * 2 ^ 0) (by omega)
theorem fltM_par (b : Nat) : fltM b % 2 = b % 2 := by unfold fltM; split <;> omega
theorem flt_bounds {b : Nat} (hb : b ≤ most) : fltM b < 2 ^ 53 ∧ -1074 ≤ fltK b ∧ fltK b ≤ 971 := by
  unfold most at hb
  unfold fltM fltK
  split
  · exact ⟨by omega, by omega, by omega⟩
  · exact ⟨by omega, by omega, by omega⟩
end Go.Proofs.YtgihkmofpncobaaDoor
