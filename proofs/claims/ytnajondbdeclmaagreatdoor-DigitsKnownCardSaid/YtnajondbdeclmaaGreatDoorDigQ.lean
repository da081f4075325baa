/- Plain: sizes of floats as whole numbers of a small unit; from where to where numbers round to them. Plain: the fewest digits of a float's size, as the program seeks them. -/
import Derived.Test.YtnajondbdeclmaaGreatDoorFltQ
import Derived.Test.YtnajondbdeclmaaGreatDoorTextP
import Derived.Test.YtnajondbdeclmaaGreatDoorDecP
namespace Go.Proofs.YtnajondbdeclmaaGreatDoor
set_option linter.unusedSimpArgs false
set_option linter.unusedVariables false

def unitE : Nat := 1075
/-- How often the unit goes into two to the power -1075. -/
def U5 : Nat := 5 ^ unitE
def sz (b : Nat) : Nat := 2 * Fl b * U5
def fromN (b : Nat) : Nat := if b = 0 then 0 else (Fl (b - 1) + Fl b) * U5
def toN (b : Nat) : Nat := (Fl b + Fl (b + 1)) * U5
theorem U5_pos : 0 < U5 := Nat.pow_pos (by decide)
theorem U5_lt : U5 < 2 ^ (3 * unitE) := by
  unfold U5
  rw [Nat.pow_mul]
  exact Nat.pow_lt_pow_left (by decide) (by decide)
theorem unitE_eq : unitE = 1075 := rfl
/-- m times two to the power q. -/
def sv5 (m : Nat) (q : Int) : Nat := U5 * m * 2 ^ (q + unitE).toNat
theorem sv5_sz (b : Nat) : sv5 (fltM b) (fltK b) = sz b := by
  obtain ⟨u, hu⟩ : ∃ u, u = 1074 := ⟨_, rfl⟩
  obtain ⟨h1, _, h3, _⟩ := flt_form b u hu
  have e : (fltK b + unitE).toNat = (fltK b + (u : Nat)).toNat + 1 := by unfold unitE; omega
  unfold sv5 sz
  rw [e, ← h1, Nat.pow_succ]
  generalize U5 = U
  ac_rfl
theorem sv5_to (b : Nat) : sv5 (2 * fltM b + 1) (fltK b - 1) = toN b := by
  obtain ⟨u, hu⟩ : ∃ u, u = 1074 := ⟨_, rfl⟩
  obtain ⟨_, h2, h3, _⟩ := flt_form b u hu
  have e : (fltK b - 1 + unitE).toNat = (fltK b + (u : Nat)).toNat := by unfold unitE; omega
  unfold sv5 toN
  rw [e, ← h2]
  generalize U5 = U
  ac_rfl
theorem sv5_from (b : Nat) (hb : 0 < b) : (fltM b = 4503599627370496 ∧ -1074 < fltK b → sv5 (4 * fltM b - 1) (fltK b - 2) = fromN b) ∧ (¬ (fltM b = 4503599627370496 ∧ -1074 < fltK b) → sv5 (2 * fltM b - 1) (fltK b - 1) = fromN b) := by
  obtain ⟨u, hu⟩ : ∃ u, u = 1074 := ⟨_, rfl⟩
  obtain ⟨_, _, h3, _⟩ := flt_form b u hu
  obtain ⟨k1, k2⟩ := flt_below b u hu hb
  have e1 : (fltK b - 2 + unitE).toNat = (fltK b + (u : Nat) - 1).toNat := by unfold unitE; omega
  have e2 : (fltK b - 1 + unitE).toNat = (fltK b + (u : Nat)).toNat := by unfold unitE; omega
  unfold sv5 fromN
  rw [if_neg (by omega), e1, e2]
  refine ⟨fun h => ?_, fun h => ?_⟩
  · rw [← k1 h]; generalize U5 = U; ac_rfl
  · rw [← k2 h]; generalize U5 = U; ac_rfl
end Go.Proofs.YtnajondbdeclmaaGreatDoor

namespace Go.Proofs.YtnajondbdeclmaaGreatDoor
set_option linter.unusedSimpArgs false
set_option linter.unusedVariables false

/-- Does a number round to a float? -/
def insD (b x : Nat) : Bool := (decide (fromN b < x) && decide (x < toN b)) || (b % 2 == 0 && (x == fromN b || x == toN b))
def insC (a c : Int) (closed : Bool) : Bool := (decide (0 < a) && decide (c < 0)) || (closed && (a == 0 || c == 0))
theorem insC_D (b x : Nat) : insC (cmpI x (fromN b)) (cmpI x (toN b)) (b % 2 == 0) = insD b x := by
  unfold insC insD
  generalize fromN b = F
  generalize toN b = T
  congr 1
  · congr 1
    · rcases cmpI_tri x F with ⟨h, e⟩ | ⟨h, e⟩ | ⟨h, e⟩ <;> rw [e] <;> simp <;> omega
    · rcases cmpI_tri x T with ⟨h, e⟩ | ⟨h, e⟩ | ⟨h, e⟩ <;> rw [e] <;> simp <;> omega
  · congr 1
    congr 1
    · rcases cmpI_tri x F with ⟨h, e⟩ | ⟨h, e⟩ | ⟨h, e⟩ <;> rw [e, Bool.eq_iff_iff] <;> simp <;> omega
    · rcases cmpI_tri x T with ⟨h, e⟩ | ⟨h, e⟩ | ⟨h, e⟩ <;> rw [e, Bool.eq_iff_iff] <;> simp <;> omega
/-- Is the upper one of two neighbours the nearer one? -/
def upper (S low high head : Nat) : Bool := decide (high - S < S - low) || (S - low == high - S && head % 2 == 1)
/-- What so many digits come to, of a size of so many digits: one of the two neighbours. -/
def pickG (ins : Nat → Bool) (S L k : Nat) : Option Nat :=
  if ins (S / 10 ^ (L - k) * 10 ^ (L - k)) && ins (S / 10 ^ (L - k) * 10 ^ (L - k) + 10 ^ (L - k)) then some (if upper S (S / 10 ^ (L - k) * 10 ^ (L - k)) (S / 10 ^ (L - k) * 10 ^ (L - k) + 10 ^ (L - k)) (S / 10 ^ (L - k)) then S / 10 ^ (L - k) * 10 ^ (L - k) + 10 ^ (L - k) else S / 10 ^ (L - k) * 10 ^ (L - k))
  else if ins (S / 10 ^ (L - k) * 10 ^ (L - k) + 10 ^ (L - k)) then some (S / 10 ^ (L - k) * 10 ^ (L - k) + 10 ^ (L - k)) else if ins (S / 10 ^ (L - k) * 10 ^ (L - k)) then some (S / 10 ^ (L - k) * 10 ^ (L - k)) else none
def firstG (pick : Nat → Option Nat) (S : Nat) : Nat → Nat → Nat
  | 0, _ => S
  | f + 1, k => match pick k with
    | some x => x
    | none => firstG pick S f (k + 1)
theorem firstG_zero (pick : Nat → Option Nat) (S k : Nat) : firstG pick S 0 k = S := rfl
theorem firstG_succ (pick : Nat → Option Nat) (S f k : Nat) : firstG pick S (f + 1) k = match pick k with | some x => x | none => firstG pick S f (k + 1) := rfl
/-- The first of the neighbours that rounds to it, by ever more digits. -/
def seekG (ins : Nat → Bool) (S L : Nat) : Nat := firstG (pickG ins S L) S (L - 1) 1
def lenD (x : Nat) : Nat := (dtext x).length
def shortN (b : Nat) : Nat := seekG (insD b) (sz b) (lenD (sz b))
/-- A number's digits without noughts at the end, and its exponent. -/
def rowN (x : Nat) : List UInt8 × Int := (noughtsR (dtext x), (dtext x).length - 1075)
/-- The fewest digits of a float's size, and its exponent. -/
def shortR (b : Nat) : List UInt8 × Int := if b = 0 then ([48], 1) else rowN (shortN b)

theorem dval_take {l : List UInt8} (hd : ∀ c ∈ l, isD c = true) (k : Nat) (hk : k ≤ l.length) : dval (l.take k) = dval l / 10 ^ (l.length - k) := by
  have h := dval_append (l.take k) (l.drop k)
  rw [List.take_append_drop] at h
  have h2 := dval_lt (l.drop k) (fun c hc => hd c (List.mem_of_mem_drop hc))
  rw [List.length_drop] at h h2
  rw [h, Nat.mul_comm, Nat.mul_add_div (Nat.pow_pos (by decide)), Nat.div_eq_of_lt h2, Nat.add_zero]
theorem head_text (S k : Nat) (hk : k ≤ lenD S) : dval ((dtext S).take k) = S / 10 ^ (lenD S - k) := by
  rw [dval_take (dtext_digits S) k hk, dtext_val]; rfl
theorem sz_pos {b : Nat} (h : 0 < b) : 0 < sz b := by
  unfold sz
  have := Fl_lt (a := 0) (b := b)
  rw [Fl_zero] at this
  exact Nat.mul_pos (Nat.mul_pos (by decide) (this.2 h)) U5_pos
end Go.Proofs.YtnajondbdeclmaaGreatDoor
