/- Plain: the fewest digits of a float lie where numbers round to it; seventeen are enough; no row of fewer digits lies there, none of as many is nearer. Plain: decimals as whole numbers of 10^-1075; how they stand to each other and to floats; which float they round to. Plain: digits with an exponent, and the exact form of a number, as literals: what they denote. -/
import Derived.Test.YtnajondbdeclmaaGreatDoorDigQ
import Derived.Test.YtnajondbdeclmaaGreatDoorDecS
import Derived.Test.YtnajondbdeclmaaGreatDoorDecW
import Derived.Test.YtnajondbdeclmaaGreatDoorLitP
import Derived.Lib.ItoaLen
namespace Go.Proofs.YtnajondbdeclmaaGreatDoor
set_option linter.unusedSimpArgs false
set_option linter.unusedVariables false

theorem insD_iff {b x : Nat} : insD b x = true ↔ (fromN b < x ∧ x < toN b) ∨ (b % 2 = 0 ∧ (x = fromN b ∨ x = toN b)) := by
  unfold insD
  simp
theorem sz_in {b : Nat} (h : 0 < b) : fromN b < sz b ∧ sz b < toN b := by
  have h1 := Fl_up (b - 1)
  rw [show b - 1 + 1 = b by omega] at h1
  have h2 := Fl_up b
  unfold fromN sz toN
  rw [if_neg (by omega)]
  have hu := U5_pos
  exact ⟨Nat.mul_lt_mul_of_pos_right (by omega) hu, Nat.mul_lt_mul_of_pos_right (by omega) hu⟩
theorem from_lt_to (b : Nat) : fromN b < toN b := by
  have h2 := Fl_up b
  unfold fromN toN
  have hu := U5_pos
  by_cases h : b = 0
  · rw [if_pos h]; exact Nat.mul_pos (by omega) hu
  · rw [if_neg h]
    have h1 := Fl_up (b - 1)
    rw [show b - 1 + 1 = b by omega] at h1
    exact Nat.mul_lt_mul_of_pos_right (by omega) hu
theorem insD_mid {b x y z : Nat} (hx : insD b x = true) (hy : insD b y = true) (h1 : x ≤ z) (h2 : z ≤ y) : insD b z = true := by
  rw [insD_iff] at *
  have := from_lt_to b
  omega
theorem insD_sz {b : Nat} (h : 0 < b) : insD b (sz b) = true := insD_iff.2 (.inl (sz_in h))

/-- The neighbours of a size with so many digits less. -/
def lowN (S p : Nat) : Nat := S / p * p
theorem low_le (S p : Nat) : lowN S p ≤ S := Nat.div_mul_le_self _ _
theorem high_gt {S p : Nat} (h : 0 < p) : S < lowN S p + p := by
  unfold lowN
  have h1 := Nat.div_add_mod S p
  have h2 := Nat.mod_lt S h
  rw [Nat.mul_comm] at h1
  omega
theorem pickG_some {ins : Nat → Bool} {S L k x : Nat} (h : pickG ins S L k = some x) :
    ins x = true ∧ (x = lowN S (10 ^ (L - k)) ∨ x = lowN S (10 ^ (L - k)) + 10 ^ (L - k)) := by
  unfold pickG at h
  unfold lowN
  generalize S / 10 ^ (L - k) * 10 ^ (L - k) = l at *
  generalize 10 ^ (L - k) = p at *
  split at h
  · rename_i hb
    simp only [Bool.and_eq_true] at hb
    injection h with h
    subst h
    split
    · exact ⟨hb.2, .inr rfl⟩
    · exact ⟨hb.1, .inl rfl⟩
  · split at h
    · rename_i hb
      injection h with h
      subst h
      exact ⟨hb, .inr rfl⟩
    · split at h
      · rename_i hb
        injection h with h
        subst h
        exact ⟨hb, .inl rfl⟩
      · cases h
/-- The upper neighbour is taken only where the lower one is not the size itself. -/
theorem pickG_high {ins : Nat → Bool} {S L k x : Nat} (hs : ins S = true) (h : pickG ins S L k = some x) : x = lowN S (10 ^ (L - k)) ∨ (x = lowN S (10 ^ (L - k)) + 10 ^ (L - k) ∧ lowN S (10 ^ (L - k)) < S) := by
  have hp : 0 < 10 ^ (L - k) := Nat.pow_pos (by decide)
  have h1 := low_le S (10 ^ (L - k))
  have h2 := high_gt (S := S) hp
  unfold pickG at h
  unfold lowN at *
  generalize S / 10 ^ (L - k) * 10 ^ (L - k) = l at *
  generalize 10 ^ (L - k) = p at *
  have key : l = S → ins l = true := fun e => by rw [e]; exact hs
  split at h
  · rename_i hb
    injection h with h
    subst h
    split
    · rename_i hu
      right
      refine ⟨rfl, ?_⟩
      unfold upper at hu
      simp only [Bool.or_eq_true, decide_eq_true_eq, Bool.and_eq_true, beq_iff_eq] at hu
      omega
    · exact .inl rfl
  · rename_i hb
    split at h
    · rename_i hc
      injection h with h
      subst h
      right
      refine ⟨rfl, ?_⟩
      rcases Nat.lt_or_ge l S with c | c
      · exact c
      · exfalso
        apply hb
        rw [key (by omega), hc]
        rfl
    · split at h
      · injection h with h
        exact .inl h.symm
      · cases h
theorem pickG_none {ins : Nat → Bool} {S L k : Nat} (h : pickG ins S L k = none) : ins (lowN S (10 ^ (L - k))) = false ∧ ins (lowN S (10 ^ (L - k)) + 10 ^ (L - k)) = false := by
  unfold pickG at h
  unfold lowN
  generalize S / 10 ^ (L - k) * 10 ^ (L - k) = l at *
  generalize 10 ^ (L - k) = p at *
  split at h
  · cases h
  · split at h
    · cases h
    · split at h
      · cases h
      · rename_i h1 h2
        exact ⟨by simpa using h2, by simpa using h1⟩
theorem firstG_spec (pick : Nat → Option Nat) (S f k : Nat) :
    (∃ j, k ≤ j ∧ j < k + f ∧ pick j = some (firstG pick S f k) ∧ ∀ i, k ≤ i → i < j → pick i = none) ∨ (firstG pick S f k = S ∧ ∀ i, k ≤ i → i < k + f → pick i = none) := by
  induction f generalizing k with
  | zero => exact .inr ⟨rfl, fun i h1 h2 => absurd h2 (by omega)⟩
  | succ f ih =>
    rw [firstG_succ]
    cases hp : pick k with
    | some x => exact .inl ⟨k, Nat.le_refl _, by omega, hp, fun i h1 h2 => absurd h2 (by omega)⟩
    | none =>
      dsimp only
      rcases ih (k + 1) with ⟨j, h1, h2, h3, h4⟩ | ⟨h1, h2⟩
      · refine .inl ⟨j, by omega, by omega, h3, fun i a b => ?_⟩
        rcases Nat.lt_or_ge k i with c | c
        · exact h4 i c b
        · rw [show i = k by omega]; exact hp
      · refine .inr ⟨h1, fun i a b => ?_⟩
        rcases Nat.lt_or_ge k i with c | c
        · exact h2 i c (by omega)
        · rw [show i = k by omega]; exact hp

theorem lenD_lt (x : Nat) : x < 10 ^ lenD x := by
  have := dval_lt _ (dtext_digits x)
  rwa [dtext_val] at this
theorem lenD_ge {x : Nat} (h : 0 < x) : 10 ^ (lenD x - 1) ≤ x := by
  rcases Nat.lt_or_ge x (10 ^ (lenD x - 1)) with h1 | h1
  · by_cases h0 : lenD x - 1 = 0
    · rw [h0] at h1; simp at h1; omega
    · have := dtext_len h1 (by omega)
      have h2 : (dtext x).length = lenD x := rfl
      omega
  · exact h1
theorem lenD_of {x k : Nat} (h1 : 10 ^ k ≤ x) (h2 : x < 10 ^ (k + 1)) : lenD x = k + 1 := by
  have a : lenD x ≤ k + 1 := dtext_len h2 (by omega)
  rcases Nat.lt_or_ge (lenD x) (k + 1) with h | h
  · have := lenD_lt x
    have := Nat.pow_le_pow_right (show 0 < 10 by decide) (show lenD x ≤ k by omega)
    omega
  · omega

/-- What Shortest finds: the size itself, or a neighbour at the first number of digits at which one rounds to it. -/
theorem short_spec {b : Nat} (h : 0 < b) : insD b (shortN b) = true ∧
    ((∃ k, 1 ≤ k ∧ k < lenD (sz b) ∧ (shortN b = lowN (sz b) (10 ^ (lenD (sz b) - k)) ∨ (shortN b = lowN (sz b) (10 ^ (lenD (sz b) - k)) + 10 ^ (lenD (sz b) - k) ∧ lowN (sz b) (10 ^ (lenD (sz b) - k)) < sz b)) ∧
        ∀ i, 1 ≤ i → i < k → insD b (lowN (sz b) (10 ^ (lenD (sz b) - i))) = false ∧ insD b (lowN (sz b) (10 ^ (lenD (sz b) - i)) + 10 ^ (lenD (sz b) - i)) = false) ∨
      (shortN b = sz b ∧ ∀ i, 1 ≤ i → i < lenD (sz b) → insD b (lowN (sz b) (10 ^ (lenD (sz b) - i))) = false ∧ insD b (lowN (sz b) (10 ^ (lenD (sz b) - i)) + 10 ^ (lenD (sz b) - i)) = false)) := by
  unfold shortN seekG
  have hs := insD_sz h
  generalize sz b = S at *
  generalize lenD S = L at *
  rcases firstG_spec (pickG (insD b) S L) S (L - 1) 1 with ⟨j, h1, h2, h3, h4⟩ | ⟨h1, h2⟩
  · generalize firstG (pickG (insD b) S L) S (L - 1) 1 = X at *
    have := pickG_some h3
    exact ⟨this.1, .inl ⟨j, h1, by omega, pickG_high hs h3, fun i a c => pickG_none (h4 i a c)⟩⟩
  · refine ⟨by rw [h1]; exact hs, .inr ⟨h1, fun i a c => pickG_none (h2 i a (by omega))⟩⟩

theorem Fl_gap {b : Nat} (h : 0 < b) : 2 * Fl b < (Fl (b + 1) - Fl (b - 1)) * 9007199254740992 ∧ Fl b ≤ (Fl b - Fl (b - 1)) * 9007199254740992 ∧ Fl b ≤ (Fl (b + 1) - Fl b) * 9007199254740992 := by
  obtain ⟨j, m, rfl, h1, h2⟩ := Fl_form b
  rw [Fl_at h1 h2, Fl_next h1 h2]
  have hP : P52 = 4503599627370496 := rfl
  have hp : 0 < 2 ^ j := Nat.pow_pos (by decide)
  by_cases h3 : j = 0 ∨ P52 ≤ m - 1
  · have hm : 0 < m := by
      rcases h3 with h4 | h4
      · rw [h4, Nat.zero_mul] at h; omega
      · omega
    have e : j * P52 + m - 1 = j * P52 + (m - 1) := by omega
    rw [e, Fl_at h3 (by omega)]
    obtain ⟨k, rfl⟩ : ∃ k, m = k + 1 := ⟨m - 1, by omega⟩
    rw [Nat.add_sub_cancel]
    have hk : (k + 1) * 2 ^ j ≤ 9007199254740991 * 2 ^ j := Nat.mul_le_mul_right _ (by omega)
    have e1 : (k + 1 + 1) * 2 ^ j = k * 2 ^ j + 2 ^ j + 2 ^ j := by rw [Nat.add_mul, Nat.add_mul]; omega
    have e2 : (k + 1) * 2 ^ j = k * 2 ^ j + 2 ^ j := by rw [Nat.add_mul]; omega
    rw [e1] 
    rw [e2] at hk ⊢
    generalize 2 ^ j = p at *
    generalize k * p = q at *
    omega
  · obtain ⟨i, rfl⟩ : ∃ i, j = i + 1 := ⟨j - 1, by omega⟩
    have hm : m = P52 := by omega
    subst hm
    have e : (i + 1) * P52 + P52 - 1 = i * P52 + (2 * P52 - 1) := by rw [Nat.add_mul]; omega
    rw [e, Fl_at (.inr (by omega)) (by omega), Nat.pow_succ]
    have hq : 0 < 2 ^ i := Nat.pow_pos (by decide)
    clear hp
    generalize 2 ^ i = q at *
    rw [hP]
    simp only [show 4503599627370496 + 1 = 4503599627370497 from rfl, show 2 * 4503599627370496 - 1 = 9007199254740991 from rfl]
    omega
/-- The size of a float is less than so many times the width of what rounds to it. -/
theorem sz_gap {b : Nat} (h : 0 < b) : sz b < (toN b - fromN b) * 9007199254740992 ∧ sz b ≤ 2 * ((sz b - fromN b) * 9007199254740992) ∧ sz b ≤ 2 * ((toN b - sz b) * 9007199254740992) := by
  obtain ⟨h1, h2, h3⟩ := Fl_gap h
  have hu := U5_pos
  have hl := Fl_up (b - 1)
  rw [show b - 1 + 1 = b by omega] at hl
  have hl2 := Fl_up b
  unfold toN fromN sz
  rw [if_neg (by omega), ← Nat.mul_sub_right_distrib, ← Nat.mul_sub_right_distrib, ← Nat.mul_sub_right_distrib]
  generalize Fl b = B at *
  generalize Fl (b - 1) = A at *
  generalize Fl (b + 1) = C at *
  have e1 : B + C - (A + B) = C - A := by omega
  have e2 : 2 * B - (A + B) = B - A := by omega
  have e3 : B + C - 2 * B = C - B := by omega
  rw [e1, e2, e3]
  generalize C - A = x at *
  generalize B - A = y at *
  generalize C - B = z at *
  generalize U5 = U at *
  refine ⟨?_, ?_, ?_⟩
  · have := Nat.mul_lt_mul_of_pos_right h1 hu
    rwa [Nat.mul_right_comm x] at this
  · have := Nat.mul_le_mul_right U h2
    rw [Nat.mul_right_comm y] at this
    rw [Nat.mul_assoc 2]
    omega
  · have := Nat.mul_le_mul_right U h3
    rw [Nat.mul_right_comm z] at this
    rw [Nat.mul_assoc 2]
    omega
/-- With seventeen digits one of the neighbours rounds to it. -/
theorem seventeen {b : Nat} (h : 0 < b) (hL : 17 ≤ lenD (sz b)) : insD b (lowN (sz b) (10 ^ (lenD (sz b) - 17))) = true ∨ insD b (lowN (sz b) (10 ^ (lenD (sz b) - 17)) + 10 ^ (lenD (sz b) - 17)) = true := by
  have hg := (sz_gap h).1
  have hs := sz_in h
  have hge := lenD_ge (x := sz b) (by omega)
  generalize sz b = S at *
  have e : 10 ^ (lenD S - 1) = 10 ^ (lenD S - 17) * 10000000000000000 := by
    rw [show (10000000000000000 : Nat) = 10 ^ 16 from rfl, ← Nat.pow_add]
    congr 1
    omega
  rw [e] at hge
  have hp : 0 < 10 ^ (lenD S - 17) := Nat.pow_pos (by decide)
  generalize 10 ^ (lenD S - 17) = p at *
  have h1 := low_le S p
  have h2 := high_gt (S := S) hp
  generalize lowN S p = l at *
  rw [insD_iff, insD_iff]
  generalize fromN b = F at *
  generalize toN b = T at *
  rcases Nat.lt_or_ge F l with h3 | h3
  · exact .inl (.inl ⟨h3, by omega⟩)
  · refine .inr (.inl ⟨by omega, ?_⟩)
    rcases Nat.lt_or_ge (l + p) T with h4 | h4
    · exact h4
    · have : T - F ≤ p := by omega
      omega
/-- Of how many digits. -/
theorem short_digits {b : Nat} (h : 0 < b) : ∃ k v, 1 ≤ k ∧ k ≤ 17 ∧ k ≤ lenD (sz b) ∧ v ≤ 10 ^ k ∧ shortN b = v * 10 ^ (lenD (sz b) - k) ∧ (shortN b = lowN (sz b) (10 ^ (lenD (sz b) - k)) ∨ (shortN b = lowN (sz b) (10 ^ (lenD (sz b) - k)) + 10 ^ (lenD (sz b) - k) ∧ lowN (sz b) (10 ^ (lenD (sz b) - k)) < sz b)) ∧
    ∀ i, 1 ≤ i → i < k → insD b (lowN (sz b) (10 ^ (lenD (sz b) - i))) = false ∧ insD b (lowN (sz b) (10 ^ (lenD (sz b) - i)) + 10 ^ (lenD (sz b) - i)) = false := by
  obtain ⟨_, hk⟩ := short_spec h
  have h17 := seventeen h
  have hlt := lenD_lt (sz b)
  have hpos : 0 < lenD (sz b) := List.length_pos_iff.2 (dtext_ne _)
  have hdiv : ∀ k, k ≤ lenD (sz b) → sz b / 10 ^ (lenD (sz b) - k) < 10 ^ k := by
    intro k hk
    rw [Nat.div_lt_iff_lt_mul (Nat.pow_pos (by decide)), ← Nat.pow_add, show k + (lenD (sz b) - k) = lenD (sz b) by omega]
    exact hlt
  rcases hk with ⟨k, k1, k2, k3, k4⟩ | ⟨k1, k2⟩
  · have k17 : k ≤ 17 := by
      rcases Nat.lt_or_ge 17 k with h1 | h1
      · obtain ⟨a, c⟩ := k4 17 (by decide) h1
        rcases h17 (by omega) with d | d
        · rw [a] at d; cases d
        · rw [c] at d; cases d
      · exact h1
    have hd := hdiv k (by omega)
    rcases k3 with k3 | k3
    · exact ⟨k, _, k1, k17, by omega, Nat.le_of_lt hd, k3, .inl k3, k4⟩
    · refine ⟨k, sz b / 10 ^ (lenD (sz b) - k) + 1, k1, k17, by omega, hd, ?_, .inr k3, k4⟩
      rw [k3.1, Nat.add_mul, Nat.one_mul]; rfl
  · have kl : lenD (sz b) ≤ 17 := by
      rcases Nat.lt_or_ge 17 (lenD (sz b)) with h1 | h1
      · obtain ⟨a, c⟩ := k2 17 (by decide) h1
        rcases h17 (by omega) with d | d
        · rw [a] at d; cases d
        · rw [c] at d; cases d
      · exact h1
    refine ⟨lenD (sz b), sz b, hpos, kl, Nat.le_refl _, Nat.le_of_lt hlt, ?_, .inl ?_, k2⟩
    · rw [k1, Nat.sub_self, Nat.pow_zero, Nat.mul_one]
    · rw [k1, Nat.sub_self, Nat.pow_zero]
      unfold lowN
      rw [Nat.div_one, Nat.mul_one]
/-- A row of so many digits lies not between a size and its neighbours with as many digits. -/
theorem not_between {S X v j n : Nat} (hS : 0 < S) (hv : X = v * 10 ^ j) (hvn : v < 10 ^ n) (hn : 1 ≤ n) (hL : n ≤ lenD S) :
    (X ≤ S → X ≤ lowN S (10 ^ (lenD S - n))) ∧ (S < X → lowN S (10 ^ (lenD S - n)) + 10 ^ (lenD S - n) ≤ X) := by
  have hge := lenD_ge hS
  generalize lenD S = L at *
  have hp : 0 < 10 ^ (L - n) := Nat.pow_pos (by decide)
  have mul : ∀ u, (u * 10 ^ (L - n) ≤ S → u * 10 ^ (L - n) ≤ lowN S (10 ^ (L - n))) ∧ (S < u * 10 ^ (L - n) → lowN S (10 ^ (L - n)) + 10 ^ (L - n) ≤ u * 10 ^ (L - n)) := by
    intro u
    generalize 10 ^ (L - n) = p at *
    unfold lowN
    refine ⟨fun h => Nat.mul_le_mul_right _ ((Nat.le_div_iff_mul_le hp).2 h), fun h => ?_⟩
    have h1 : S / p + 1 ≤ u := (Nat.div_lt_iff_lt_mul hp).2 h
    have := Nat.mul_le_mul_right p h1
    rwa [Nat.add_mul, Nat.one_mul] at this
  rcases Nat.lt_or_ge j (L - n) with hj | hj
  · have h1 : X < 10 ^ (L - 1) := by
      have h2 : v * 10 ^ j < 10 ^ n * 10 ^ j := Nat.mul_lt_mul_of_pos_right hvn (Nat.pow_pos (by decide))
      rw [← Nat.pow_add] at h2
      have h3 := Nat.pow_le_pow_right (show 0 < 10 by decide) (show n + j ≤ L - 1 by omega)
      omega
    have h2 := (mul (10 ^ (n - 1))).1 (by rw [← Nat.pow_add, show n - 1 + (L - n) = L - 1 by omega]; exact hge)
    rw [← Nat.pow_add, show n - 1 + (L - n) = L - 1 by omega] at h2
    exact ⟨fun _ => by omega, fun h => by omega⟩
  · have e : X = v * 10 ^ (j - (L - n)) * 10 ^ (L - n) := by
      rw [hv, Nat.mul_assoc, ← Nat.pow_add]
      congr 2
      omega
    rw [e]
    exact mul _
/-- No row of fewer digits lies where numbers round to the float. -/
theorem short_least {b X v j n k : Nat} (h : 0 < b) (hX : insD b X = true) (hv : X = v * 10 ^ j) (hvn : v < 10 ^ n) (hn : 1 ≤ n) (hkL : k ≤ lenD (sz b))
    (hk : ∀ i, 1 ≤ i → i < k → insD b (lowN (sz b) (10 ^ (lenD (sz b) - i))) = false ∧ insD b (lowN (sz b) (10 ^ (lenD (sz b) - i)) + 10 ^ (lenD (sz b) - i)) = false) :
    k ≤ n := by
  rcases Nat.lt_or_ge n k with hlt | hge
  · obtain ⟨k1, k2⟩ := hk n hn hlt
    have hs := insD_sz h
    have hS := sz_pos h
    obtain ⟨m1, m2⟩ := not_between hS hv hvn hn (by omega)
    have l1 := low_le (sz b) (10 ^ (lenD (sz b) - n))
    have l2 := high_gt (S := sz b) (p := 10 ^ (lenD (sz b) - n)) (Nat.pow_pos (by decide))
    rcases Nat.lt_or_ge (sz b) X with c | c
    · rw [insD_mid hs hX (Nat.le_of_lt l2) (m2 c)] at k2; cases k2
    · rw [insD_mid hX hs (m1 c) l1] at k1; cases k1
  · exact hge
end Go.Proofs.YtnajondbdeclmaaGreatDoor

namespace Go.Proofs.YtnajondbdeclmaaGreatDoor
set_option linter.unusedSimpArgs false
set_option linter.unusedVariables false

/-- A decimal's size as a whole number of 10^-1075. -/
def valX (d : Dm) : Nat := dval d.2.1 * 10 ^ (d.2.2 + (unitE : Int)).toNat
theorem val_num {d : Dm} (h : -(unitE : Int) ≤ d.2.2) : numD d * 10 ^ unitE = valX d * denD d := by
  unfold numD valX denD
  generalize unitE = u at *
  rw [Nat.mul_assoc, Nat.mul_assoc, ← Nat.pow_add, ← Nat.pow_add]
  congr 2
  omega
theorem ten_unit (n : Nat) (hn : n = 1074) : 10 ^ unitE = 2 * 2 ^ n * U5 := by
  have e : unitE = n + 1 := by rw [hn]; rfl
  unfold U5
  rw [e, show (10 : Nat) = 2 * 5 from rfl, Nat.mul_pow]
  have : 2 ^ (n + 1) = 2 * 2 ^ n := by rw [Nat.pow_succ, Nat.mul_comm]
  rw [this]
theorem shortD_le {d : Dm} (h : d.2.1.length ≤ 800) : shortD d = d := by unfold shortD; rw [if_neg (by omega)]
/-- A quotient's numbers against a size. -/
theorem num_val {d : Dm} (h : -(unitE : Int) ≤ d.2.2) (n : Nat) (hn : n = 1074) : numD d * 2 ^ n * (2 * U5) = valX d * denD d := by
  rw [← val_num h, ten_unit n hn]
  generalize U5 = U
  generalize 2 ^ n = p
  ac_rfl
theorem size_cut {d : Dm} (h : -(unitE : Int) ≤ d.2.2) (k n : Nat) (hn : n = 1074) : (Fl k * denD d ≤ numD d * 2 ^ n ↔ sz k ≤ valX d) ∧ (Fl k * denD d = numD d * 2 ^ n ↔ sz k = valX d) := by
  have hv := num_val h n hn
  have hB := denD_pos d
  have hu : 0 < 2 * U5 := Nat.mul_pos (by decide) U5_pos
  have e : Fl k * denD d * (2 * U5) = sz k * denD d := by
    unfold sz
    generalize U5 = U
    ac_rfl
  generalize numD d * 2 ^ n = A at *
  generalize Fl k * denD d = F at *
  constructor
  · rw [← Nat.mul_le_mul_right_iff hu, e, hv, Nat.mul_le_mul_right_iff hB]
  · rw [← Nat.mul_left_inj (Nat.ne_of_gt hu), e, hv, Nat.mul_left_inj (Nat.ne_of_gt hB)]
theorem cut_val {d : Dm} {k : Nat} (h : -(unitE : Int) ≤ d.2.2) (hk : k ≤ most) : k ≤ cutB (numD d) (denD d) ↔ sz k ≤ valX d := by
  obtain ⟨n, hn⟩ : ∃ n, n = 1074 := ⟨_, rfl⟩
  unfold cutB
  rw [← hn, ← (size_cut h k n hn).1, ← Nat.le_div_iff_mul_le (denD_pos d), ← flT_iff]
  omega
theorem cutB_le (A B : Nat) : cutB A B ≤ most := by unfold cutB; omega
theorem cmp_half {d : Dm} (h : -(unitE : Int) ≤ d.2.2) (f n : Nat) (hn : n = 1074) : cmpI (2 * (numD d * 2 ^ n)) ((Fl f + Fl (f + 1)) * denD d) = cmpI (valX d) (toN f) := by
  have hv := num_val h n hn
  have h1 : 2 * (numD d * 2 ^ n) * U5 = valX d * denD d := by
    rw [← hv]
    generalize U5 = U
    generalize 2 ^ n = p
    generalize numD d = A
    ac_rfl
  have h2 : (Fl f + Fl (f + 1)) * denD d * U5 = toN f * denD d := by
    unfold toN
    generalize U5 = U
    ac_rfl
  rw [← cmpI_mul (c := U5) U5_pos, h1, h2, cmpI_mul (denD_pos d)]
theorem sz_mono {a b : Nat} (h : a < b) : sz a < sz b := by
  unfold sz
  exact Nat.mul_lt_mul_of_pos_right (Nat.mul_lt_mul_of_pos_left (Fl_lt.2 h) (by decide)) U5_pos
theorem to_from (b : Nat) (h : 0 < b) : toN (b - 1) = fromN b := by
  unfold toN fromN
  rw [if_neg (by omega), show b - 1 + 1 = b by omega]
theorem to_next (b : Nat) : toN b = fromN (b + 1) := by rw [← to_from (b + 1) (by omega)]; rfl
/-- A decimal that lies where numbers round to a float rounds to it. -/
theorem up_val {d : Dm} {b : Nat} (g : Bool) (h : -(unitE : Int) ≤ d.2.2) (hb : b ≤ most) (hi : insD b (valX d) = true) : upB g (numD d) (denD d) 1 = b := by
  obtain ⟨n, hn⟩ : ∃ n, n = 1074 := ⟨_, rfl⟩
  have hle := fun k (hk : k ≤ most) => cut_val (k := k) h hk
  have hc := fun f => cmp_half h f n hn
  have hx := fun f => (size_cut h f n hn).2
  have hm := cutB_le (numD d) (denD d)
  unfold upB cutP
  rw [← hn]
  generalize cutB (numD d) (denD d) = f at *
  rw [hc f]
  simp only [hx f]
  generalize valX d = V at *
  clear hc hx
  rw [insD_iff] at hi
  have htop : V ≤ toN b := by have := from_lt_to b; omega
  have hbot : fromN b ≤ V := by have := from_lt_to b; omega
  have w1 : sz b < toN b := by
    by_cases h0 : b = 0
    · rw [h0]
      have := from_lt_to 0
      have h2 : sz 0 = 0 := by unfold sz; rw [Fl_zero, Nat.mul_zero, Nat.zero_mul]
      omega
    · exact (sz_in (by omega)).2
  by_cases hs : sz b ≤ V
  · have hf : b ≤ f := (hle b hb).2 hs
    have hf2 : f = b := by
      rcases Nat.lt_or_ge b f with h1 | h1
      · have h2 := (hle (b + 1) (by omega)).1 h1
        have h3 := (sz_in (b := b + 1) (by omega)).1
        rw [← to_next] at h3
        omega
      · omega
    subst hf2
    rw [if_neg]
    unfold upP
    rw [if_neg (by decide), if_neg (by decide), if_pos rfl]
    rcases Nat.lt_or_ge V (toN f) with h1 | h1
    · rw [cmpI_lt h1]; simp
    · have : V = toN f := by omega
      rw [this, cmpI_eq]
      have : f % 2 = 0 := by omega
      simp [this]
  · have hb0 : 0 < b := by
      rcases Nat.eq_zero_or_pos b with h0 | h0
      · subst h0
        have h2 : sz 0 = 0 := by unfold sz; rw [Fl_zero, Nat.mul_zero, Nat.zero_mul]
        omega
      · exact h0
    have h1 : sz (b - 1) < fromN b := by rw [← to_from b hb0]; 
                                         by_cases h0 : b - 1 = 0
                                         · rw [h0]
                                           have := from_lt_to 0
                                           have h2 : sz 0 = 0 := by unfold sz; rw [Fl_zero, Nat.mul_zero, Nat.zero_mul]
                                           omega
                                         · exact (sz_in (by omega)).2
    have hf1 : b - 1 ≤ f := (hle (b - 1) (by omega)).2 (by omega)
    have hf2 : ¬ b ≤ f := fun h2 => hs ((hle b hb).1 h2)
    have hf : f = b - 1 := by omega
    rw [hf, to_from b hb0]
    rw [if_pos]
    · omega
    unfold upP
    rw [if_neg (by decide), if_neg (by decide), if_pos rfl]
    have hx : ¬ sz (b - 1) = V := by omega
    rcases Nat.lt_or_ge (fromN b) V with h2 | h2
    · rw [cmpI_gt h2]; simp [hx]
    · have h3 : V = fromN b := by omega
      have h4 : b % 2 = 0 := by have := from_lt_to b; omega
      have h5 : (b - 1) % 2 = 1 := by omega
      rw [h3] at hx ⊢
      rw [cmpI_eq]
      simp [hx, h5]
theorem val_zero {d : Dm} (h : d.2.1 = []) : valX d = 0 := by unfold valX; rw [h, dval_nil, Nat.zero_mul]
theorem val_pos {d : Dm} (h : Lead d.2.1) : 0 < valX d := by
  unfold valX
  exact Nat.mul_pos (Nat.lt_of_lt_of_le (pow10 _) h.ge) (pow10 _)
theorem endP_most {g : Bool} {b : Nat} (h : b ≤ most) : endP g b = some (if g && decide (0 < b) then b + 9223372036854775808 else b) := by unfold endP; rw [if_neg (by omega)]
theorem round_val {d : Dm} {b : Nat} (hB : Bare d) (h : -(unitE : Int) ≤ d.2.2) (hl : d.2.1.length ≤ 800) (hb : b ≤ most) (hi : insD b (valX d) = true) :
    roundP d 1 = some (if d.1 && decide (0 < b) then b + 9223372036854775808 else b) := by
  by_cases h0 : d.2.1 = []
  · rw [hB.2.1 h0, round_nought]
    rw [val_zero h0, insD_iff] at hi
    have : b = 0 := by
      rcases Nat.eq_zero_or_pos b with h1 | h1
      · exact h1
      · exfalso
        have : 0 < fromN b := by
          unfold fromN
          rw [if_neg (by omega)]
          have := Fl_lt (a := 0) (b := b)
          rw [Fl_zero] at this
          exact Nat.mul_pos (by have := this.2 h1; omega) U5_pos
        have := from_lt_to b
        omega
    rw [this]
    rfl
  · rw [roundP_cut (hB.lead h0), shortD_le hl, up_val d.1 h hb hi, endP_most hb]

theorem last_digit {l : List UInt8} (hd : ∀ c ∈ l, isD c = true) (h0 : l ≠ []) (hl : l.getLast? ≠ some 48) : dval l % 10 ≠ 0 := by
  obtain ⟨m, c, rfl⟩ : ∃ m c, l = m ++ [c] := ⟨l.dropLast, l.getLast h0, (List.dropLast_concat_getLast h0).symm⟩
  rw [List.getLast?_concat] at hl
  have hc := of_decide_eq_true (hd c (by simp))
  have : c ≠ 48 := fun h => hl (by rw [h])
  have hn : c.toNat ≠ 48 := fun h => this (UInt8.toNat_inj.1 (by rw [h]; rfl))
  rw [dval_snoc]
  omega
theorem lead_text {l : List UInt8} (h : Lead l) : dtext (dval l) = l := dtext_canon h.1 h.2.1 (.inl h.2.2)
theorem bare_inj {d e : Dm} (hd : Bare d) (he : Bare e) (h1 : d.1 = false) (h2 : e.1 = false) (b1 : -(unitE : Int) ≤ d.2.2) (b2 : -(unitE : Int) ≤ e.2.2) (hv : valX d = valX e) : d = e := by
  by_cases n1 : d.2.1 = []
  · by_cases n2 : e.2.1 = []
    · rw [hd.2.1 n1, he.2.1 n2]
    · have := val_pos (he.lead n2)
      rw [← hv, val_zero n1] at this
      omega
  · by_cases n2 : e.2.1 = []
    · have := val_pos (hd.lead n1)
      rw [hv, val_zero n2] at this
      omega
    · have key : ∀ {l m : List UInt8} {a c : Nat}, dval l % 10 ≠ 0 → dval l * 10 ^ a = dval m * 10 ^ c → c ≤ a := by
        intro l m a c hl h
        rcases Nat.lt_or_ge a c with hlt | hge
        · exfalso
          rw [show c = (c - a - 1) + 1 + a by omega, Nat.pow_add, Nat.pow_succ, ← Nat.mul_assoc] at h
          have h3 := Nat.eq_of_mul_eq_mul_right (pow10 a) h
          rw [← Nat.mul_assoc] at h3
          apply hl
          rw [h3, Nat.mul_mod_left]
        · exact hge
      have l1 := last_digit hd.1 n1 hd.2.2.2
      have l2 := last_digit he.1 n2 he.2.2.2
      have hv' := hv
      unfold valX at hv'
      have k1 := key l1 hv'
      have k2 := key l2 hv'.symm
      have e1 : d.2.2 = e.2.2 := by omega
      rw [e1] at hv'
      have e2 := Nat.eq_of_mul_eq_mul_right (pow10 _) hv'
      have e3 : d.2.1 = e.2.1 := by rw [← lead_text (hd.lead n1), ← lead_text (he.lead n2), e2]
      exact Prod.ext (by rw [h1, h2]) (Prod.ext e3 e1)
theorem cmp_le {d e : Dm} (hd : Bare d) (he : Bare e) (h1 : d.1 = false) (h2 : e.1 = false) (b1 : -(unitE : Int) ≤ d.2.2) (b2 : -(unitE : Int) ≤ e.2.2) (l1 : d.2.1.length ≤ 800) (l2 : e.2.1.length ≤ 800)
    (h : cmpD d e ≤ 0) : valX d ≤ valX e := by
  by_cases n1 : d.2.1 = []
  · rw [val_zero n1]; omega
  · have s1 : signP d = 1 := by unfold signP; rw [if_neg n1, h1]; rfl
    by_cases n2 : e.2.1 = []
    · have s2 : signP e = 0 := by unfold signP; rw [if_pos n2]
      unfold cmpD at h
      rw [s1, s2] at h
      simp at h
    · have s2 : signP e = 1 := by unfold signP; rw [if_neg n2, h2]; rfl
      unfold cmpD at h
      rw [s1, s2] at h
      simp at h
      have hm := mag_le (hd.lead n1) (he.lead n2) h
      rw [shortD_le l1, shortD_le l2] at hm
      have v1 := val_num b1
      have v2 := val_num b2
      have p1 := denD_pos d
      have p2 := denD_pos e
      have h3 := Nat.mul_le_mul_right (10 ^ unitE) hm
      have e1 : numD d * denD e * 10 ^ unitE = valX d * denD d * denD e := by rw [Nat.mul_right_comm, v1]
      have e2 : numD e * denD d * 10 ^ unitE = valX e * denD d * denD e := by rw [Nat.mul_right_comm, v2, Nat.mul_right_comm]
      rw [e1, e2] at h3
      exact Nat.le_of_mul_le_mul_right (Nat.le_of_mul_le_mul_right h3 p2) p1
/-- Two decimals without minus stand as their values do. -/
theorem cmp_val {d e : Dm} (hd : Bare d) (he : Bare e) (h1 : d.1 = false) (h2 : e.1 = false) (b1 : -(unitE : Int) ≤ d.2.2) (b2 : -(unitE : Int) ≤ e.2.2) (l1 : d.2.1.length ≤ 800) (l2 : e.2.1.length ≤ 800) :
    cmpD d e = cmpI (valX d) (valX e) := by
  have a := cmp_le hd he h1 h2 b1 b2 l1 l2
  have c := cmp_le he hd h2 h1 b2 b1 l2 l1
  rw [cmpD_anti d e] at c
  rcases Nat.lt_trichotomy (valX d) (valX e) with h | h | h
  · rw [cmpI_lt h]
    rcases cmpD_range d e with k | k | k
    · exact k
    · have := cmpD_eq hd he k
      rw [this] at h; omega
    · have := c (by omega); omega
  · rw [bare_inj hd he h1 h2 b1 b2 h, cmpD_self, cmpI_eq]
  · rw [cmpI_gt h]
    rcases cmpD_range d e with k | k | k
    · have := a (by omega); omega
    · have := cmpD_eq hd he k
      rw [this] at h; omega
    · exact k
/-- How a decimal stands to a float of the same sign. -/
theorem againC_val {d : Dm} (s : Int) (hB : Lead d.2.1) (h : -(unitE : Int) ≤ d.2.2) (hl : d.2.1.length ≤ 800) {m : Nat} (hm : m ≤ most) :
    againC s (floorP d) m = s * cmpI (valX d) (sz m) := by
  obtain ⟨n, hn⟩ : ∃ n, n = 1074 := ⟨_, rfl⟩
  have hle := fun k (hk : k ≤ most) => cut_val (k := k) h hk
  have hx' := fun f => (size_cut h f n hn).2
  have hmo := cutB_le (numD d) (denD d)
  rw [floorP_cut hB, shortD_le hl]
  unfold cutP againC
  rw [← hn]
  simp only
  generalize cutB (numD d) (denD d) = f at *
  have e : (decide (Fl f * denD d = numD d * 2 ^ n)) = decide (sz f = valX d) := by rw [decide_eq_decide]; exact hx' f
  rw [e]
  generalize valX d = V at *
  rcases Nat.lt_trichotomy V (sz m) with k | k | k
  · have : ¬ m ≤ f := fun h => by have := (hle m hm).1 h; omega
    rw [cmpI_lt k, if_neg (by omega), if_pos (by omega)]; omega
  · have hf : m ≤ f := (hle m hm).2 (by omega)
    have hf2 : f = m := by
      rcases Nat.lt_or_ge m f with h1 | h1
      · have h2 := (hle (m + 1) (by omega)).1 h1
        have h3 := sz_mono (show m < m + 1 by omega)
        omega
      · omega
    rw [k, cmpI_eq, hf2]
    rw [if_neg (by simp), if_neg (by omega)]; omega
  · have hf : m ≤ f := (hle m hm).2 (by omega)
    rw [cmpI_gt k, if_pos]
    · omega
    · refine ⟨hf, ?_⟩
      rintro ⟨h1, h2⟩
      have h3 := of_decide_eq_true h2
      rw [h1] at h3
      omega
/-- How a decimal stands to a float of its sign. -/
theorem again_val {d : Dm} (hB : Bare d) (h : -(unitE : Int) ≤ d.2.2) (hl : d.2.1.length ≤ 800) (h1 : d.1 = false) {n : Nat} (hn : n ≤ most) : againP d n = cmpI (valX d) (sz n) := by
  have hs : svI n = (Fl n : Int) := by unfold svI; rw [if_pos (by unfold most at hn; omega)]
  have hmod : n % 9223372036854775808 = n := Nat.mod_eq_of_lt (by unfold most at hn; omega)
  have hF : Fl n = 0 ↔ n = 0 := by
    constructor
    · intro h0
      exact Fl_inj (by rw [h0, Fl_zero])
    · intro h0; rw [h0, Fl_zero]
  have hz : sz n = 0 ↔ n = 0 := by
    constructor
    · intro h0
      rcases Nat.eq_zero_or_pos n with h2 | h2
      · exact h2
      · have := sz_pos h2; omega
    · intro h0; rw [h0]; unfold sz; rw [Fl_zero, Nat.mul_zero, Nat.zero_mul]
  unfold againP
  have hf : fsign n = if n = 0 then 0 else 1 := by
    unfold fsign
    rw [hs, if_neg (by omega)]
    by_cases h0 : n = 0
    · rw [if_pos h0, if_pos (by have := hF.2 h0; omega)]
    · rw [if_neg h0, if_neg (by intro h2; exact h0 (hF.1 (by omega)))]
  rw [hf, hmod]
  by_cases n1 : d.2.1 = []
  · have s1 : signP d = 0 := by unfold signP; rw [if_pos n1]
    rw [s1, val_zero n1]
    by_cases h0 : n = 0
    · rw [if_pos h0, (hz.2 h0), cmpI_eq]; rfl
    · rw [if_neg h0, cmpI_lt (by have : sz n ≠ 0 := fun h2 => h0 (hz.1 h2); omega)]; rfl
  · have s1 : signP d = 1 := by unfold signP; rw [if_neg n1, h1]; rfl
    rw [s1]
    by_cases h0 : n = 0
    · rw [if_pos h0, (hz.2 h0), cmpI_gt (val_pos (hB.lead n1))]; rfl
    · rw [if_neg h0, if_neg (by decide), if_neg (by decide), if_neg (by decide), againC_val 1 (hB.lead n1) h hl hn, Int.one_mul]
/-- A decimal with a minus and a float below nought. -/
theorem again_neg {d : Dm} (hB : Bare d) (h : -(unitE : Int) ≤ d.2.2) (hl : d.2.1.length ≤ 800) (h1 : d.1 = true) (h0 : d.2.1 ≠ []) {n : Nat} (hn0 : 0 < n) (hn : n ≤ most) : againP d (n + 9223372036854775808) = -cmpI (valX d) (sz n) := by
  have hs : svI (n + 9223372036854775808) = -(Fl n : Int) := by unfold svI; rw [if_neg (by omega), Nat.add_sub_cancel]
  have hmod : (n + 9223372036854775808) % 9223372036854775808 = n := by unfold most at hn; omega
  have hF : 0 < Fl n := by
    have := Fl_lt (a := 0) (b := n)
    rw [Fl_zero] at this
    exact this.2 hn0
  unfold againP
  have hf : fsign (n + 9223372036854775808) = -1 := by
    unfold fsign
    rw [hs, if_pos (by omega)]
  have s1 : signP d = -1 := by unfold signP; rw [if_neg h0, h1]; rfl
  rw [hf, s1, if_neg (by decide), if_neg (by decide), if_neg (by decide), hmod, againC_val (-1) (hB.lead h0) h hl hn]
  omega
end Go.Proofs.YtnajondbdeclmaaGreatDoor

namespace Go.Proofs.YtnajondbdeclmaaGreatDoor
set_option linter.unusedSimpArgs false
set_option linter.unusedVariables false

theorem dval_zeros (k : Nat) : dval (List.replicate k 48) = 0 := by
  induction k with
  | zero => rfl
  | succ k ih => rw [List.replicate_succ', dval_snoc, ih]; rfl
theorem noughtsR_spec (l : List UInt8) : ∃ k, l = noughtsR l ++ List.replicate k 48 := by
  have h := List.takeWhile_append_dropWhile (p := (· == (48 : UInt8))) (l := l.reverse)
  have h2 : (l.reverse.takeWhile (· == (48 : UInt8))) = List.replicate (l.reverse.takeWhile (· == (48 : UInt8))).length 48 :=
    List.eq_replicate_iff.2 ⟨rfl, fun c hc => by
      have := List.all_eq_true.1 (List.all_takeWhile (p := (· == (48 : UInt8))) (l := l.reverse)) c hc
      simpa using this⟩
  refine ⟨(l.reverse.takeWhile (· == (48 : UInt8))).length, ?_⟩
  unfold noughtsR
  have h3 := congrArg List.reverse h
  rw [List.reverse_append, List.reverse_reverse] at h3
  conv at h3 => lhs; rw [h2, List.reverse_replicate]
  exact h3.symm
theorem ten_free {x y a c : Nat} (hx : x % 10 ≠ 0) (h : x * 10 ^ a = y * 10 ^ c) : c ≤ a := by
  rcases Nat.lt_or_ge a c with hlt | hge
  · exfalso
    rw [show c = (c - a - 1) + 1 + a by omega, Nat.pow_add, Nat.pow_succ, ← Nat.mul_assoc] at h
    have h3 := Nat.eq_of_mul_eq_mul_right (pow10 a) h
    rw [← Nat.mul_assoc] at h3
    apply hx
    rw [h3, Nat.mul_mod_left]
  · exact hge
/-- Noughts at both ends taken away: the same value. -/
theorem strip_val (d : Dm) (h : -(unitE : Int) ≤ d.2.2) : valX (stripD d) = valX d ∧ -(unitE : Int) ≤ (stripD d).2.2 ∧ ((stripD d).2.1 ≠ [] → (stripD d).1 = d.1) := by
  obtain ⟨k, hk⟩ := noughtsR_spec (noughtsL d.2.1)
  have hv : dval d.2.1 = dval (noughtsR (noughtsL d.2.1)) * 10 ^ k := by
    rw [← dropZ_val]
    show dval (noughtsL d.2.1) = _
    conv => lhs; rw [hk]
    rw [dval_append, dval_zeros, List.length_replicate, Nat.add_zero]
  have hl : (noughtsL d.2.1).length = (noughtsR (noughtsL d.2.1)).length + k := by
    conv => lhs; rw [hk]
    rw [List.length_append, List.length_replicate]
  unfold stripD
  simp only
  generalize noughtsR (noughtsL d.2.1) = t at *
  generalize (noughtsL d.2.1).length = s at *
  split
  · rename_i ht
    subst ht
    have : valX d = 0 := by unfold valX; rw [hv, dval_nil, Nat.zero_mul, Nat.zero_mul]
    refine ⟨?_, ?_, fun h => absurd rfl h⟩
    · rw [this]; exact val_zero rfl
    · show -(unitE : Int) ≤ 0; omega
  · rename_i ht
    have hve : dval t * 10 ^ (d.2.2 + (s : Int) - (t.length : Int) + (unitE : Int)).toNat = valX d := by
      unfold valX
      rw [hv, Nat.mul_assoc, ← Nat.pow_add]
      congr 2
      omega
    refine ⟨hve, ?_, fun _ => rfl⟩
    show -(unitE : Int) ≤ d.2.2 + (s : Int) - (t.length : Int)
    omega
/-- A bare decimal has no more digits than its value wants. -/
theorem bare_len {d : Dm} (hB : Bare d) {N e n : Nat} (hv : valX d = N * 10 ^ e) (hN : N < 10 ^ n) : d.2.1.length ≤ n := by
  by_cases h0 : d.2.1 = []
  · rw [h0]; exact Nat.zero_le _
  · have hL := hB.lead h0
    have l1 := last_digit hB.1 h0 hB.2.2.2
    unfold valX at hv
    have ha := ten_free l1 hv
    generalize (d.2.2 + (unitE : Int)).toNat = a at *
    have h1 : dval d.2.1 * 10 ^ (a - e) = N := by
      have : dval d.2.1 * 10 ^ (a - e) * 10 ^ e = N * 10 ^ e := by
        rw [Nat.mul_assoc, ← Nat.pow_add, show a - e + e = a by omega, hv]
      exact Nat.eq_of_mul_eq_mul_right (pow10 e) this
    have h2 : dval d.2.1 ≤ N := by rw [← h1]; exact Nat.le_mul_of_pos_right _ (pow10 _)
    have h3 := hL.ge
    have h4 : 10 ^ (d.2.1.length - 1) < 10 ^ n := by omega
    have := (Nat.pow_lt_pow_iff_right (show 1 < 10 by decide)).1 h4
    omega
/-- A size and the ends have no more than eight hundred digits that count. -/
theorem u5_800 (k : Nat) (hk : k = 800) : 5 ^ unitE * 2 ^ 56 ≤ 10 ^ k := by subst hk; unfold unitE; decide +kernel
theorem two_800 (k n : Nat) (hk : k = 800) (hn : n = 971) : 2 ^ 56 * 2 ^ n ≤ 10 ^ k := by subst hk hn; decide +kernel
theorem sv5_800 {m : Nat} {q : Int} (hm : m < 2 ^ 56) (h1 : -(unitE : Int) ≤ q) (h2 : q ≤ 971) (k : Nat) (hk : k = 800) : ∃ N e, sv5 m q = N * 10 ^ e ∧ N < 10 ^ k := by
  have a1 := u5_800 k hk
  have a2 := fun n => two_800 k n hk
  clear hk
  unfold sv5 U5
  obtain ⟨e, he⟩ : ∃ e, e = (q + (unitE : Int)).toNat := ⟨_, rfl⟩
  rw [← he]
  have hu : unitE = 1075 := rfl
  generalize unitE = u at *
  rcases Nat.lt_or_ge u e with hlt | hge
  · refine ⟨m * 2 ^ (e - u), u, ?_, ?_⟩
    · rw [show (10 : Nat) = 5 * 2 from rfl, Nat.mul_pow]
      have : 2 ^ e = 2 ^ (e - u) * 2 ^ u := by rw [← Nat.pow_add, show e - u + u = e by omega]
      rw [this]
      generalize 5 ^ u = x
      generalize 2 ^ u = y
      generalize 2 ^ (e - u) = z
      ac_rfl
    · obtain ⟨n, hn⟩ : ∃ n, n = 971 := ⟨_, rfl⟩
      refine Nat.lt_of_lt_of_le ?_ (a2 n hn)
      refine Nat.lt_of_lt_of_le (Nat.mul_lt_mul_of_pos_right hm (Nat.pow_pos (by decide))) ?_
      exact Nat.mul_le_mul_left _ (Nat.pow_le_pow_right (by decide) (by omega))
  · refine ⟨5 ^ (u - e) * m, e, ?_, ?_⟩
    · rw [show (10 : Nat) = 5 * 2 from rfl, Nat.mul_pow]
      have : 5 ^ u = 5 ^ (u - e) * 5 ^ e := by rw [← Nat.pow_add, show u - e + e = u by omega]
      rw [this]
      generalize 5 ^ e = x
      generalize 2 ^ e = y
      generalize 5 ^ (u - e) = z
      ac_rfl
    · refine Nat.lt_of_lt_of_le ?_ a1
      refine Nat.lt_of_le_of_lt (Nat.mul_le_mul_right m (Nat.pow_le_pow_right (by decide) (show u - e ≤ u by omega))) ?_
      exact Nat.mul_lt_mul_of_pos_left hm (Nat.pow_pos (by decide))
theorem sz_800 {b : Nat} (hb : b ≤ most) (k : Nat) (hk : k = 800) : (∃ N e, sz b = N * 10 ^ e ∧ N < 10 ^ k) ∧ (∃ N e, toN b = N * 10 ^ e ∧ N < 10 ^ k) ∧ ∃ N e, fromN b = N * 10 ^ e ∧ N < 10 ^ k := by
  obtain ⟨h1, h2, h3⟩ := flt_bounds hb
  have hu : unitE = 1075 := rfl
  have two : (2 : Nat) ^ 53 = 9007199254740992 := rfl
  have two6 : (2 : Nat) ^ 56 = 72057594037927936 := rfl
  refine ⟨?_, ?_, ?_⟩
  · rw [← sv5_sz]
    exact sv5_800 (by omega) (by omega) h3 k hk
  · rw [← sv5_to]
    exact sv5_800 (by omega) (by omega) (by omega) k hk
  · rcases Nat.eq_zero_or_pos b with h0 | h0
    · subst h0
      exact ⟨0, 0, by rw [Nat.zero_mul]; rfl, pow10 _⟩
    · obtain ⟨k1, k2⟩ := sv5_from b h0
      by_cases hc : fltM b = 4503599627370496 ∧ -1074 < fltK b
      · rw [← k1 hc]
        exact sv5_800 (by omega) (by omega) (by omega) k hk
      · rw [← k2 hc]
        exact sv5_800 (by omega) (by omega) (by omega) k hk

/-- Digits with an exponent, as a literal. -/
def litL (d : List UInt8) (n : Int) : List UInt8 := d ++ (101 :: Lib.itoa (n - d.length))
theorem lit_parse {d : List UInt8} {n : Int} (hd : ∀ c ∈ d, isD c = true) (h0 : d ≠ []) (hh : d = [48] ∨ d.head? ≠ some 48) (h1 : -(farE : Int) < n - d.length) (h2 : n - d.length < farE) :
    wrongP (litL d n) = none ∧ bareP (litL d n) = stripD (false, d, n - d.length) := by
  have hL : LitT false d [] (itoaS (n - d.length)) (itoaD (n - d.length)) := ⟨hd, h0, hh, fun c hc => by simp at hc, itoaD_digits _, itoaS_or _⟩
  have e : litL d n = litT false d [] (itoaS (n - d.length)) (itoaD (n - d.length)) := by
    unfold litL litT gS pB pE
    rw [itoa_parts]
    simp [itoaD_ne]
  obtain ⟨p1, p2⟩ := hL.parse
  rw [e]
  refine ⟨p1, ?_⟩
  rw [p2, itoa_val _ h1 h2]
  simp
theorem itoa_len21 (n : Int) (h0 : -9223372036854775808 ≤ n) (h1 : n ≤ 9223372036854775807) : (Lib.itoa n).length ≤ 21 := by
  unfold Lib.itoa
  split
  · rw [List.length_cons, Lib.decDigits_length]
    have := Lib.nDigits_le20 n.natAbs (by omega)
    omega
  · rw [Lib.decDigits_length]
    have := Lib.nDigits_le20 n.toNat (by omega)
    omega
theorem lit_len (d : List UInt8) (n : Int) (h0 : -9223372036854775808 ≤ n - d.length) (h1 : n - d.length ≤ 9223372036854775807) : (litL d n).length ≤ d.length + 22 := by
  have := itoa_len21 (n - d.length) h0 h1
  unfold litL
  rw [List.length_append, List.length_cons]
  omega

/-- A number's digits, with so many noughts ahead that one stands before the point. -/
def padN (x : Nat) : List UInt8 := List.replicate (unitE + 1 - lenD x) 48 ++ dtext x
def wholeN (x : Nat) : List UInt8 := (padN x).take ((padN x).length - unitE)
def restN (x : Nat) : List UInt8 := noughtsR ((padN x).drop ((padN x).length - unitE))
/-- The exact form of a number. -/
def formN (x : Nat) : List UInt8 := wholeN x ++ pB (restN x)
theorem padN_len (x : Nat) : unitE < (padN x).length := by
  unfold padN
  rw [List.length_append, List.length_replicate]
  show unitE < unitE + 1 - lenD x + lenD x
  omega
theorem padN_digits (x : Nat) : ∀ c ∈ padN x, isD c = true := by
  intro c hc
  unfold padN at hc
  rcases List.mem_append.1 hc with h | h
  · rw [List.eq_of_mem_replicate h]; rfl
  · exact dtext_digits x c h
theorem padN_val (x : Nat) : dval (padN x) = x := by
  unfold padN
  rw [dval_append, dval_zeros, Nat.zero_mul, Nat.zero_add, dtext_val]
theorem dtext_head {x : Nat} (h : 0 < x) : (dtext x).head? ≠ some 48 := by
  intro h2
  cases hd : dtext x with
  | nil => exact dtext_ne x hd
  | cons c l =>
    rw [hd] at h2
    injection h2 with h2
    subst h2
    have hv := dtext_val x
    have hdig := dtext_digits x
    rw [hd] at hv hdig
    rw [dval_cons] at hv
    have h3 : dval l = x := by rw [← hv]; simp
    have h4 := dval_lt l (fun c hc => hdig c (List.mem_cons_of_mem _ hc))
    rw [h3] at h4
    have h5 := lenD_ge h
    have h6 : lenD x = l.length + 1 := by unfold lenD; rw [hd]; rfl
    rw [h6, Nat.add_sub_cancel] at h5
    omega
theorem form_lit (g : Bool) (x : Nat) : LitT g (wholeN x) (restN x) [] [] ∧ gS g ++ formN x = litT g (wholeN x) (restN x) [] [] := by
  have hp := padN_digits x
  have hl := padN_len x
  refine ⟨⟨fun c hc => hp c (List.mem_of_mem_take hc), ?_, ?_, fun c hc => hp c (List.mem_of_mem_drop (noughtsR_mem hc)), fun c hc => by simp at hc, .inl rfl⟩, ?_⟩
  · intro h
    have := congrArg List.length h
    unfold wholeN at this
    rw [List.length_take, List.length_nil] at this
    omega
  · unfold wholeN
    by_cases h : lenD x ≤ unitE
    · left
      have e : padN x = 48 :: (List.replicate (unitE - lenD x) 48 ++ dtext x) := by
        unfold padN
        rw [show unitE + 1 - lenD x = (unitE - lenD x) + 1 by omega, List.replicate_succ, List.cons_append]
      have e2 : (padN x).length - unitE = 1 := by
        unfold padN
        rw [List.length_append, List.length_replicate]
        show unitE + 1 - lenD x + lenD x - unitE = 1
        omega
      rw [e2, e]
      rfl
    · right
      have e : padN x = dtext x := by
        unfold padN
        rw [show unitE + 1 - lenD x = 0 by omega]
        rfl
      have hx : 0 < x := by
        rcases Nat.eq_zero_or_pos x with h0 | h0
        · subst h0
          exfalso
          apply h
          show 1 ≤ unitE
          unfold unitE
          omega
        · exact h0
      have := dtext_head hx
      rw [e] at hl ⊢
      rw [List.head?_take, if_neg (by omega)]
      exact this
  · unfold formN litT pE
    simp
theorem form_parse (g : Bool) (x : Nat) : wrongP (gS g ++ formN x) = none ∧ ∃ d : Dm, bareP (gS g ++ formN x) = stripD d ∧ valX d = x ∧ d.1 = g ∧ -(unitE : Int) ≤ d.2.2 := by
  obtain ⟨h1, h2⟩ := form_lit g x
  obtain ⟨p1, p2⟩ := h1.parse
  rw [h2]
  refine ⟨p1, _, p2, ?_, rfl, ?_⟩
  · obtain ⟨k, hk⟩ := noughtsR_spec ((padN x).drop ((padN x).length - unitE))
    have hl := padN_len x
    have hlen : (restN x).length + k = unitE := by
      have := congrArg List.length hk
      rw [List.length_append, List.length_replicate, List.length_drop] at this
      unfold restN
      omega
    have e : padN x = (wholeN x ++ restN x) ++ List.replicate k 48 := by
      rw [List.append_assoc]
      unfold wholeN restN
      rw [← hk, List.take_append_drop]
    have hv := padN_val x
    rw [e, dval_append, dval_zeros, List.length_replicate, Nat.add_zero] at hv
    unfold valX
    simp only
    have e3 : ((if ([] : List UInt8) = [45] ∧ ([] : List UInt8) ≠ [] then -(capE [] : Int) else (capE [] : Int)) - ((restN x).length : Int) + (unitE : Int)).toNat = k := by
      have : capE [] = 0 := rfl
      simp [this]
      omega
    rw [e3, hv]
  · have hlen : (restN x).length ≤ unitE := by
      obtain ⟨k, hk⟩ := noughtsR_spec ((padN x).drop ((padN x).length - unitE))
      have hl := padN_len x
      have := congrArg List.length hk
      rw [List.length_append, List.length_replicate, List.length_drop] at this
      unfold restN
      omega
    have : capE [] = 0 := rfl
    simp [this]
    omega
theorem form_len (x : Nat) : (formN x).length ≤ lenD x + unitE + 3 := by
  have h1 : (padN x).length ≤ lenD x + unitE + 1 := by
    unfold padN
    rw [List.length_append, List.length_replicate]
    show unitE + 1 - lenD x + lenD x ≤ _
    omega
  obtain ⟨k, hk⟩ := noughtsR_spec ((padN x).drop ((padN x).length - unitE))
  have h2 := congrArg List.length hk
  rw [List.length_append, List.length_replicate, List.length_drop] at h2
  have h3 : (pB (restN x)).length ≤ (restN x).length + 1 := by unfold pB; split <;> simp
  have hl := padN_len x
  unfold formN
  rw [List.length_append]
  unfold wholeN
  rw [List.length_take]
  unfold restN at h3 ⊢
  omega
end Go.Proofs.YtnajondbdeclmaaGreatDoor
