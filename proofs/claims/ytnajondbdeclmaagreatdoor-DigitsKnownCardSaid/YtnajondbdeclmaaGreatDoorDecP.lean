/- Plain law of literals: where a text goes wrong, its parts, what it denotes. -/
import Derived.Test.YtnajondbdeclmaaGreatDoorTextP
namespace Go.Proofs.YtnajondbdeclmaaGreatDoor
set_option linter.unusedVariables false
set_option linter.unusedSimpArgs false

def dAt (s : List UInt8) (i : Nat) : Bool := match s[i]? with
  | some c => isD c
  | none => false
/-- The place behind the digits that stand from a place on. -/
def ov (s : List UInt8) (i : Nat) : Nat := i + ((s.drop i).takeWhile isD).length
theorem dAt_lt {s : List UInt8} {i : Nat} (h : dAt s i = true) : i < s.length := by
  unfold dAt at h
  cases hc : s[i]? with
  | none => rw [hc] at h; cases h
  | some c => exact (List.getElem?_eq_some_iff.1 hc).1
theorem dAt_ge {s : List UInt8} {i : Nat} (h : s.length ≤ i) : dAt s i = false := by
  unfold dAt; rw [List.getElem?_eq_none h]
theorem dAt_get {s : List UInt8} {i : Nat} (h : i < s.length) : dAt s i = isD s[i] := by unfold dAt; rw [List.getElem?_eq_getElem h]
theorem drop_get {s : List UInt8} {i : Nat} (h : i < s.length) : s.drop i = s[i] :: s.drop (i + 1) := List.drop_eq_getElem_cons h
theorem ov_yes {s : List UInt8} {i : Nat} (h : dAt s i = true) : ov s i = ov s (i + 1) := by
  have hl := dAt_lt h
  rw [dAt_get hl] at h
  unfold ov
  rw [drop_get hl, List.takeWhile_cons, if_pos h, List.length_cons]
  omega
theorem ov_no {s : List UInt8} {i : Nat} (h : dAt s i = false) : ov s i = i := by
  unfold ov
  rcases Nat.lt_or_ge i s.length with hl | hl
  · rw [dAt_get hl] at h
    rw [drop_get hl, List.takeWhile_cons, if_neg (by simp [h]), List.length_nil, Nat.add_zero]
  · rw [List.drop_eq_nil_of_le hl]; rfl
theorem ov_ge (s : List UInt8) (i : Nat) : i ≤ ov s i := by unfold ov; omega
theorem ov_le {s : List UInt8} {i : Nat} (h : i ≤ s.length) : ov s i ≤ s.length := by
  unfold ov
  have := (List.takeWhile_prefix (p := isD) (l := s.drop i)).length_le
  rw [List.length_drop] at this
  omega
theorem ov_at {s : List UInt8} {i : Nat} (h : dAt s i = true) : i + 1 ≤ ov s i := by rw [ov_yes h]; exact ov_ge _ _
theorem ov_end (s : List UInt8) (i : Nat) : dAt s (ov s i) = false := by
  generalize hn : s.length - i = n
  induction n generalizing i with
  | zero => rw [ov_no (dAt_ge (by omega))]; exact dAt_ge (by omega)
  | succ n ih =>
    cases h : dAt s i with
    | false => rw [ov_no h]; exact h
    | true => rw [ov_yes h]; exact ih (i + 1) (by omega)
theorem ov_ov {s : List UInt8} {i k : Nat} (h1 : i ≤ k) (h2 : k ≤ ov s i) : ov s k = ov s i := by
  generalize hn : k - i = n
  induction n generalizing i with
  | zero => rw [show k = i by omega]
  | succ n ih =>
    cases h : dAt s i with
    | false => rw [ov_no h] at h2; omega
    | true =>
      rw [ov_yes h] at h2 ⊢
      exact ih (by omega) h2 (by omega)
theorem dAt_mid {s : List UInt8} {i k : Nat} (h1 : i ≤ k) (h2 : k < ov s i) : dAt s k = true := by
  cases h : dAt s k with
  | true => rfl
  | false =>
    have := ov_ov (s := s) h1 (by omega)
    rw [ov_no h] at this
    omega

/-- The places at which a literal's parts begin and end. -/
def p0 (s : List UInt8) : Nat := if s[0]? = some 45 then 1 else 0
def p1 (s : List UInt8) : Nat := if s[p0 s]? = some 48 then p0 s + 1 else ov s (p0 s)
def pt (s : List UInt8) : Bool := s[p1 s]? == some 46
def p2 (s : List UInt8) : Nat := if pt s then ov s (p1 s + 1) else p1 s
def hasE (s : List UInt8) : Bool := s[p2 s]? == some 101 || s[p2 s]? == some 69
def sgn (s : List UInt8) : Bool := s[p2 s + 1]? == some 43 || s[p2 s + 1]? == some 45
def p3 (s : List UInt8) : Nat := if sgn s then p2 s + 2 else p2 s + 1
def p4 (s : List UInt8) : Nat := if hasE s then ov s (p3 s) else p2 s
/-- The place of the first byte with which a text is no literal. -/
def wrongP (s : List UInt8) : Option Nat :=
  if dAt s (p0 s) = false then some (p0 s)
  else if pt s = true ∧ dAt s (p1 s + 1) = false then some (p1 s + 1)
  else if hasE s = true ∧ dAt s (p3 s) = false then some (p3 s)
  else if p4 s < s.length then some (p4 s) else none

def cutL (s : List UInt8) (i k : Nat) : List UInt8 := (s.drop i).take (k - i)
/-- A literal's parts. -/
def negP (s : List UInt8) : Bool := s[0]? == some 45
def wholeP (s : List UInt8) : List UInt8 := cutL s (p0 s) (p1 s)
def behindP (s : List UInt8) : List UInt8 := if pt s then cutL s (p1 s + 1) (p2 s) else []
def underP (s : List UInt8) : Bool := hasE s && s[p2 s + 1]? == some 45
def expP (s : List UInt8) : List UInt8 := if hasE s then cutL s (p3 s) (p4 s) else []

/-- The number that digits say, no further than it matters. -/
def farE : Nat := 35184372088832
def capE (l : List UInt8) : Nat := l.foldl (fun e c => if e < farE then 10 * e + (c.toNat - 48) else e) 0

def noughtsL (l : List UInt8) : List UInt8 := l.dropWhile (· == 48)
def noughtsR (l : List UInt8) : List UInt8 := (l.reverse.dropWhile (· == 48)).reverse
/-- A decimal: minus or not, digits, exponent. -/
abbrev Dm := Bool × List UInt8 × Int
def stripD (d : Dm) : Dm :=
  let s := noughtsL d.2.1
  let t := noughtsR s
  if t = [] then (false, [], 0) else (d.1, t, d.2.2 + s.length - t.length)
def bareP (s : List UInt8) : Dm :=
  stripD (negP s, wholeP s ++ behindP s, (if underP s then -(capE (expP s) : Int) else (capE (expP s) : Int)) - (behindP s).length)

theorem p0_le {s : List UInt8} : p0 s ≤ s.length := by
  unfold p0
  split
  · rename_i h; have := (List.getElem?_eq_some_iff.1 h).1; omega
  · omega
theorem p1_le {s : List UInt8} : p1 s ≤ s.length := by
  unfold p1
  split
  · rename_i h; have := (List.getElem?_eq_some_iff.1 h).1; omega
  · exact ov_le p0_le
theorem pt_lt {s : List UInt8} (h : pt s = true) : p1 s < s.length := by
  unfold pt at h
  exact (List.getElem?_eq_some_iff.1 (by simpa using h)).1
theorem p2_le {s : List UInt8} : p2 s ≤ s.length := by
  unfold p2
  split
  · rename_i h; exact ov_le (pt_lt h)
  · exact p1_le
theorem hasE_lt {s : List UInt8} (h : hasE s = true) : p2 s < s.length := by
  unfold hasE at h
  simp only [Bool.or_eq_true, beq_iff_eq] at h
  rcases h with h | h <;> exact (List.getElem?_eq_some_iff.1 h).1
theorem p3_le {s : List UInt8} (h : hasE s = true) : p3 s ≤ s.length := by
  have := hasE_lt h
  unfold p3
  split
  · rename_i h
    unfold sgn at h
    simp only [Bool.or_eq_true, beq_iff_eq] at h
    rcases h with h | h <;> (have := (List.getElem?_eq_some_iff.1 h).1; omega)
  · omega
theorem p4_le {s : List UInt8} : p4 s ≤ s.length := by
  unfold p4
  split
  · rename_i h; exact ov_le (p3_le h)
  · exact p2_le

theorem capE_lt (l : List UInt8) (hl : ∀ c ∈ l, isD c = true) : capE l < 10 * farE := by
  unfold capE
  have key : ∀ (l : List UInt8) (e : Nat), (∀ c ∈ l, isD c = true) → e < 10 * farE → l.foldl (fun e c => if e < farE then 10 * e + (c.toNat - 48) else e) e < 10 * farE := by
    intro l
    induction l with
    | nil => intro e _ h; exact h
    | cons c l ih =>
      intro e hc h
      rw [List.foldl_cons]
      refine ih _ (fun x hx => hc x (List.mem_cons_of_mem _ hx)) ?_
      have h1 := hc c List.mem_cons_self
      unfold isD at h1
      simp at h1
      split
      · unfold farE at *; omega
      · exact h
  exact key l 0 hl (by unfold farE; omega)
end Go.Proofs.YtnajondbdeclmaaGreatDoor
