/- Plain: the text of units. No program in sight. -/
import Derived.Test.YtmdgopclcdmenaaUtfS
namespace Go.Proofs.Ytmdgopclcdmenaa

def surr (n : Nat) : Prop := 0xD800 ≤ n ∧ n ≤ 0xDFFF
instance (n : Nat) : Decidable (surr n) := by unfold surr; infer_instance
def lone (n m : Nat) : Prop := n > 0xDBFF ∨ m < 0xDC00 ∨ m > 0xDFFF
instance (n m : Nat) : Decidable (lone n m) := by unfold lone; infer_instance
def pairR (n m : Nat) : Nat := 0x10000 + (n - 0xD800) * 1024 + (m - 0xDC00)
/-- The text of units, and the first that is alone. -/
def fuL : List Nat → List UInt8 × Option Nat
  | [] => ([], none)
  | [n] => if surr n then ([], some 0) else (enc n, none)
  | n :: m :: l => if surr n then (if lone n m then ([], some 0) else (enc (pairR n m) ++ (fuL l).1, (fuL l).2.map (· + 2))) else (enc n ++ (fuL (m :: l)).1, (fuL (m :: l)).2.map (· + 1))
theorem fuL_plain (n : Nat) (l : List Nat) (h : ¬ surr n) : fuL (n :: l) = (enc n ++ (fuL l).1, (fuL l).2.map (· + 1)) := by
  cases l with
  | nil => simp [fuL, h]
  | cons m l => rw [fuL, if_neg h]
theorem fuL_pair (n m : Nat) (l : List Nat) (h : surr n) (h2 : ¬ lone n m) : fuL (n :: m :: l) = (enc (pairR n m) ++ (fuL l).1, (fuL l).2.map (· + 2)) := by
  rw [fuL, if_pos h, if_neg h2]
theorem fuL_lone (n m : Nat) (l : List Nat) (h : surr n) (h2 : lone n m) : fuL (n :: m :: l) = ([], some 0) := by rw [fuL, if_pos h, if_pos h2]
theorem fuL_last (n : Nat) (h : surr n) : fuL [n] = ([], some 0) := by rw [fuL, if_pos h]

theorem fuL_units (r : Nat) (hr : Scal r) (l : List Nat) : fuL (unitsOf r ++ l) = (enc r ++ (fuL l).1, (fuL l).2.map (· + (unitsOf r).length)) := by
  unfold Scal at hr
  unfold unitsOf
  by_cases h : r < 65536
  · rw [if_pos h]; exact fuL_plain r l (by unfold surr; omega)
  · rw [if_neg h]
    have := fuL_pair (0xD800 + (r - 65536) / 1024) (0xDC00 + (r - 65536) % 1024) l (by unfold surr; omega) (by unfold lone; omega)
    rw [show pairR (0xD800 + (r - 65536) / 1024) (0xDC00 + (r - 65536) % 1024) = r by unfold pairR; omega] at this
    exact this

/-- The text of a right text's units is it. -/
theorem fuL_of (s : List UInt8) : ∀ m j, s.length - j = m → wrongF s j = (0, 0) → fuL (unitsF s j) = (s.drop j, none) := by
  intro m
  induction m using Nat.strongRecOn with
  | ind m ih =>
    intro j hm hw
    by_cases hj : j < s.length
    · have he : (chAt s j).e = 0 := by
        by_cases h : (chAt s j).e = 0
        · exact h
        · rw [wrongF_bad hj h] at hw; exact congrArg Prod.fst hw
      have hp : 0 < (chAt s j).n := by rcases chAt_spec s j with ⟨_, h, _⟩ | ⟨h, _⟩ | ⟨h, _⟩ <;> omega
      rw [wrongF_on hj he] at hw
      rw [unitsF_on hj he, fuL_units _ (ch_scal he).1, ih (s.length - (j + (chAt s j).n)) (by omega) _ rfl hw, ← enc_eq hj he]
      simp only [Option.map_none, Prod.mk.injEq, and_true]
      rw [← List.drop_drop, List.take_append_drop]
    · rw [unitsF_end (by omega), List.drop_of_length_le (by omega)]; rfl

/-- Units whose text is told are that text's units. -/
theorem fuL_back : ∀ (k : Nat) (u : List Nat) (p : List UInt8), u.length ≤ k → (∀ x ∈ u, x < 65536) → (fuL u).2 = none → wrongF (p ++ (fuL u).1) p.length = (0, 0) ∧ unitsF (p ++ (fuL u).1) p.length = u := by
  intro k
  induction k with
  | zero =>
    intro u p hk _ _
    obtain rfl : u = [] := List.eq_nil_of_length_eq_zero (by omega)
    simp only [fuL, List.append_nil]
    exact ⟨wrongF_end (Nat.le_refl _), unitsF_end (Nat.le_refl _)⟩
  | succ k ih =>
    intro u p hk hx hn
    have step : ∀ (r : Nat) (l : List Nat), Scal r → (fuL l).2 = none → l.length ≤ k → (∀ x ∈ l, x < 65536) → wrongF (p ++ (enc r ++ (fuL l).1)) p.length = (0, 0) ∧ unitsF (p ++ (enc r ++ (fuL l).1)) p.length = unitsOf r ++ l := by
      intro r l hr hl hlk hlx
      have hc := ch_mid p (fuL l).1 r hr
      rw [← List.append_assoc]
      have hel : 0 < (enc r).length := by rw [enc_length]; (repeat' split) <;> omega
      have hlt : p.length < (p ++ enc r ++ (fuL l).1).length := by simp only [List.length_append]; omega
      obtain ⟨i1, i2⟩ := ih l (p ++ enc r) hlk hlx hl
      rw [List.length_append] at i1 i2
      rw [wrongF_on hlt (by rw [hc]), unitsF_on hlt (by rw [hc]), hc]
      exact ⟨i1, by rw [i2]⟩
    cases u with
    | nil =>
      simp only [fuL, List.append_nil]
      exact ⟨wrongF_end (Nat.le_refl _), unitsF_end (Nat.le_refl _)⟩
    | cons n l =>
      have hn16 := hx n (by simp)
      by_cases hs : surr n
      · cases l with
        | nil => rw [fuL_last n hs] at hn; cases hn
        | cons m l =>
          have hm16 := hx m (by simp)
          by_cases hl : lone n m
          · rw [fuL_lone n m l hs hl] at hn; cases hn
          · rw [fuL_pair n m l hs hl] at hn ⊢
            have hn2 : (fuL l).2 = none := by simpa using hn
            unfold surr at hs
            unfold lone at hl
            have hr : Scal (pairR n m) := by unfold Scal pairR; omega
            have hu : unitsOf (pairR n m) = [n, m] := by
              unfold unitsOf pairR
              rw [if_neg (by omega)]
              simp only [List.cons.injEq, and_true]
              omega
            have := step (pairR n m) l hr hn2 (by simp at hk; omega) (fun x h => hx x (by simp [h]))
            rw [hu] at this
            exact this
      · rw [fuL_plain n l hs] at hn ⊢
        have hn2 : (fuL l).2 = none := by simpa using hn
        unfold surr at hs
        have hr : Scal n := by unfold Scal; omega
        have hu : unitsOf n = [n] := by unfold unitsOf; rw [if_pos hn16]
        have := step n l hr hn2 (by simp at hk; omega) (fun x h => hx x (by simp [h]))
        rw [hu] at this
        exact this
theorem fuL_len : ∀ (k : Nat) (u : List Nat), u.length ≤ k → (fuL u).1.length ≤ 4 * u.length := by
  intro k
  induction k with
  | zero => intro u h; obtain rfl : u = [] := List.eq_nil_of_length_eq_zero (by omega); simp [fuL]
  | succ k ih =>
    intro u h
    have he : ∀ r, (enc r).length ≤ 4 := fun r => by rw [enc_length]; (repeat' split) <;> omega
    cases u with
    | nil => simp [fuL]
    | cons n l =>
      by_cases hs : surr n
      · cases l with
        | nil => rw [fuL_last n hs]; simp
        | cons m l =>
          by_cases hl : lone n m
          · rw [fuL_lone n m l hs hl]; simp
          · rw [fuL_pair n m l hs hl]
            have := ih l (by simp at h; omega)
            have := he (pairR n m)
            simp only [List.length_append, List.length_cons]; omega
      · rw [fuL_plain n l hs]
        have := ih l (by simp at h; omega)
        have := he n
        simp only [List.length_append, List.length_cons]; omega
end Go.Proofs.Ytmdgopclcdmenaa
