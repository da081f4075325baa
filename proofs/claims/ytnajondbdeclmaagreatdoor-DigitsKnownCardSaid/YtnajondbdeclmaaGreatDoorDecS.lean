/- Plain law of decimals: their order. Plain law of literals: a minus put ahead, or taken away. Plain law of decimals: the lesser one rounds to no greater float; the order of floats. The order of finite floats. -/
import Derived.Test.YtnajondbdeclmaaGreatDoorDecD
import Derived.WalkLawsBesides
namespace Go.Proofs.YtnajondbdeclmaaGreatDoor
set_option linter.unusedVariables false
set_option linter.unusedSimpArgs false

theorem u8_tri (a b : UInt8) : a < b ∨ a = b ∨ b < a := by
  rcases Nat.lt_trichotomy a.toNat b.toNat with h | h | h
  · exact .inl (UInt8.lt_iff_toNat_lt.2 h)
  · exact .inr (.inl (UInt8.toNat_inj.1 h))
  · exact .inr (.inr (UInt8.lt_iff_toNat_lt.2 h))
theorem u8_asymm {a b : UInt8} (h : a < b) : ¬ b < a := by
  rw [UInt8.lt_iff_toNat_lt] at *; omega
theorem u8_trans {a b c : UInt8} (h : a < b) (k : b < c) : a < c := by
  rw [UInt8.lt_iff_toNat_lt] at *; omega
theorem u8_irr (a : UInt8) : ¬ a < a := by rw [UInt8.lt_iff_toNat_lt]; omega

theorem cmpB_cons (x y : UInt8) (a b : List UInt8) : Lib.compareBytes (x :: a) (y :: b) = if x < y then -1 else if y < x then 1 else Lib.compareBytes a b := rfl
theorem cmpB_self : ∀ a : List UInt8, Lib.compareBytes a a = 0
  | [] => rfl
  | x :: a => by rw [cmpB_cons, if_neg (u8_irr x), if_neg (u8_irr x)]; exact cmpB_self a
theorem cmpB_anti : ∀ a b : List UInt8, Lib.compareBytes b a = -Lib.compareBytes a b
  | [], [] => rfl
  | [], _ :: _ => rfl
  | _ :: _, [] => rfl
  | x :: a, y :: b => by
    rw [cmpB_cons, cmpB_cons]
    rcases u8_tri x y with h | h | h
    · rw [if_neg (u8_asymm h), if_pos h, if_pos h]; rfl
    · subst h
      rw [if_neg (u8_irr x), if_neg (u8_irr x), if_neg (u8_irr x), if_neg (u8_irr x)]
      exact cmpB_anti a b
    · rw [if_pos h, if_neg (u8_asymm h), if_pos h]
theorem cmpB_eq : ∀ {a b : List UInt8}, Lib.compareBytes a b = 0 → a = b
  | [], [], _ => rfl
  | [], _ :: _, h => by cases h
  | _ :: _, [], h => by cases h
  | x :: a, y :: b, h => by
    rw [cmpB_cons] at h
    rcases u8_tri x y with k | k | k
    · rw [if_pos k] at h; cases h
    · subst k
      rw [if_neg (u8_irr x), if_neg (u8_irr x)] at h
      rw [cmpB_eq h]
    · rw [if_neg (u8_asymm k), if_pos k] at h; cases h
theorem cmpB_trans : ∀ a b c : List UInt8, Lib.compareBytes a b ≤ 0 → Lib.compareBytes b c ≤ 0 → Lib.compareBytes a c ≤ 0 ∧ (Lib.compareBytes a b < 0 ∨ Lib.compareBytes b c < 0 → Lib.compareBytes a c < 0)
  | [], b, [], h, k => ⟨by decide, fun o => by
      cases b with
      | nil => rcases o with o | o <;> exact absurd o (by decide)
      | cons y b => exact absurd k (by show ¬ ((1 : Int) ≤ 0); decide)⟩
  | [], _, _ :: _, _, _ => ⟨by show ((-1 : Int) ≤ 0); decide, fun _ => by show ((-1 : Int) < 0); decide⟩
  | _ :: _, [], _, h, _ => absurd h (by show ¬ ((1 : Int) ≤ 0); decide)
  | _ :: _, _ :: _, [], _, k => absurd k (by show ¬ ((1 : Int) ≤ 0); decide)
  | x :: a, y :: b, z :: c, h, k => by
    rw [cmpB_cons] at h k
    rw [cmpB_cons x z, cmpB_cons x y, cmpB_cons y z]
    rcases u8_tri x y with h1 | h1 | h1
    · rcases u8_tri y z with h2 | h2 | h2
      · rw [if_pos (u8_trans h1 h2)]; exact ⟨by decide, fun _ => by decide⟩
      · subst h2; rw [if_pos h1]; exact ⟨by decide, fun _ => by decide⟩
      · rw [if_neg (u8_asymm h2), if_pos h2] at k; exact absurd k (by decide)
    · subst h1
      rcases u8_tri x z with h2 | h2 | h2
      · rw [if_pos h2]; exact ⟨by decide, fun _ => by decide⟩
      · subst h2
        rw [if_neg (u8_irr x), if_neg (u8_irr x)] at h k
        rw [if_neg (u8_irr x), if_neg (u8_irr x), if_neg (u8_irr x), if_neg (u8_irr x), if_neg (u8_irr x), if_neg (u8_irr x)]
        exact cmpB_trans a b c h k
      · rw [if_neg (u8_asymm h2), if_pos h2] at k; exact absurd k (by decide)
    · rw [if_neg (u8_asymm h1), if_pos h1] at h; exact absurd h (by decide)

theorem magP_self (d : Dm) : magP d d = 0 := by unfold magP; rw [if_neg (by omega), if_neg (by omega), cmpB_self]
theorem magP_anti (d e : Dm) : magP e d = -magP d e := by
  unfold magP
  rcases Int.lt_trichotomy (topD d) (topD e) with h | h | h
  · rw [if_neg (by omega), if_pos h, if_pos h]; rfl
  · rw [if_neg (by omega), if_neg (by omega), if_neg (by omega), if_neg (by omega), cmpB_anti]
  · rw [if_pos h, if_neg (by omega), if_pos h]
theorem magP_trans (d e f : Dm) (h : magP d e ≤ 0) (k : magP e f ≤ 0) : magP d f ≤ 0 ∧ (magP d e < 0 ∨ magP e f < 0 → magP d f < 0) := by
  unfold magP at *
  have t := cmpB_trans d.2.1 e.2.1 f.2.1
  generalize Lib.compareBytes d.2.1 e.2.1 = x at *
  generalize Lib.compareBytes e.2.1 f.2.1 = y at *
  generalize Lib.compareBytes d.2.1 f.2.1 = z at *
  generalize topD d = a at *
  generalize topD e = b at *
  generalize topD f = c at *
  repeat' split at h
  all_goals (repeat' split at k)
  all_goals (repeat' split)
  all_goals (first | omega | (refine ⟨?_, ?_⟩ <;> (try intro o) <;> omega) | (have t1 := t (by omega) (by omega); exact t1) | skip)
theorem cmpD_range (d e : Dm) : cmpD d e = -1 ∨ cmpD d e = 0 ∨ cmpD d e = 1 := by
  unfold cmpD
  have h1 := signP_range d
  have h2 := magP_range d e
  split
  · simp
  · split
    · simp
    · split
      · simp
      · rcases h1 with h | h | h <;> rcases h2 with k | k | k <;> rw [h, k] <;> simp
theorem cmpD_self (d : Dm) : cmpD d d = 0 := by
  unfold cmpD
  rw [if_neg (by omega), if_neg (by omega), magP_self]
  split <;> simp
theorem cmpD_anti (d e : Dm) : cmpD e d = -cmpD d e := by
  unfold cmpD
  rw [magP_anti d e]
  rcases Int.lt_trichotomy (signP d) (signP e) with h | h | h
  · rw [if_neg (by omega), if_pos h, if_pos h]; rfl
  · rw [h]
    have n : ¬ signP e < signP e := Int.lt_irrefl _
    simp only [if_neg n]
    split
    · rfl
    · rw [Int.mul_neg]
  · rw [if_pos h, if_neg (by omega), if_pos h]
theorem cmpD_trans (d e f : Dm) (h : cmpD d e ≤ 0) (k : cmpD e f ≤ 0) : cmpD d f ≤ 0 ∧ (cmpD d e < 0 ∨ cmpD e f < 0 → cmpD d f < 0) := by
  have r1 := signP_range d
  have r2 := signP_range e
  have r3 := signP_range f
  have t := magP_trans d e f
  have t' := magP_trans f e d
  rw [magP_anti e f, magP_anti d e, magP_anti d f] at t'
  have u1 := magP_range d e
  have u2 := magP_range e f
  have u3 := magP_range d f
  unfold cmpD at *
  generalize signP d = a at *
  generalize signP e = b at *
  generalize signP f = c at *
  generalize magP d e = x at *
  generalize magP e f = y at *
  generalize magP d f = z at *
  rcases r1 with rfl | rfl | rfl <;> rcases r2 with rfl | rfl | rfl <;> rcases r3 with rfl | rfl | rfl <;> simp at h k ⊢ <;> omega
end Go.Proofs.YtnajondbdeclmaaGreatDoor

namespace Go.Proofs.YtnajondbdeclmaaGreatDoor
set_option linter.unusedVariables false
set_option linter.unusedSimpArgs false

def flipD (d : Dm) : Dm := if d.2.1 = [] then d else (!d.1, d.2.1, d.2.2)
theorem flipD_flipD (d : Dm) : flipD (flipD d) = d := by
  unfold flipD
  by_cases h : d.2.1 = []
  · rw [if_pos h, if_pos h]
  · rw [if_neg h, if_neg h]; simp
section
variable {l : List UInt8}
theorem dAt_s (i : Nat) : dAt (45 :: l) (i + 1) = dAt l i := by unfold dAt; rw [List.getElem?_cons_succ]
theorem ov_s (i : Nat) : ov (45 :: l) (i + 1) = ov l i + 1 := by unfold ov; rw [List.drop_succ_cons]; omega
theorem cutL_s (i k : Nat) : cutL (45 :: l) (i + 1) (k + 1) = cutL l i k := by unfold cutL; rw [List.drop_succ_cons, show k + 1 - (i + 1) = k - i by omega]
theorem p0_s (h : l[0]? ≠ some 45) : p0 (45 :: l) = p0 l + 1 := by
  unfold p0
  rw [if_pos (by rfl), if_neg h]
theorem p1_s (h : l[0]? ≠ some 45) : p1 (45 :: l) = p1 l + 1 := by
  unfold p1
  rw [p0_s h, List.getElem?_cons_succ, ov_s]
  split <;> rfl
theorem pt_s (h : l[0]? ≠ some 45) : pt (45 :: l) = pt l := by unfold pt; rw [p1_s h, List.getElem?_cons_succ]
theorem p2_s (h : l[0]? ≠ some 45) : p2 (45 :: l) = p2 l + 1 := by
  unfold p2
  rw [pt_s h, p1_s h, ov_s]
  split <;> rfl
theorem hasE_s (h : l[0]? ≠ some 45) : hasE (45 :: l) = hasE l := by unfold hasE; rw [p2_s h, List.getElem?_cons_succ]
theorem sgn_s (h : l[0]? ≠ some 45) : sgn (45 :: l) = sgn l := by unfold sgn; rw [p2_s h, List.getElem?_cons_succ]
theorem p3_s (h : l[0]? ≠ some 45) : p3 (45 :: l) = p3 l + 1 := by
  unfold p3
  rw [sgn_s h, p2_s h]
  split <;> omega
theorem p4_s (h : l[0]? ≠ some 45) : p4 (45 :: l) = p4 l + 1 := by
  unfold p4
  rw [hasE_s h, p3_s h, ov_s, p2_s h]
  split <;> rfl
theorem wrongP_s (h : l[0]? ≠ some 45) : wrongP (45 :: l) = (wrongP l).map (· + 1) := by
  unfold wrongP
  rw [p0_s h, p1_s h, pt_s h, hasE_s h, p3_s h, p4_s h, dAt_s, dAt_s, dAt_s, List.length_cons]
  split
  · rfl
  · split
    · rfl
    · split
      · rfl
      · by_cases hl : p4 l < l.length
        · rw [if_pos hl, if_pos (by omega)]; rfl
        · rw [if_neg hl, if_neg (by omega)]; rfl
theorem wholeP_s (h : l[0]? ≠ some 45) : wholeP (45 :: l) = wholeP l := by unfold wholeP; rw [p0_s h, p1_s h, cutL_s]
theorem behindP_s (h : l[0]? ≠ some 45) : behindP (45 :: l) = behindP l := by unfold behindP; rw [pt_s h, p1_s h, p2_s h, cutL_s]
theorem underP_s (h : l[0]? ≠ some 45) : underP (45 :: l) = underP l := by unfold underP; rw [hasE_s h, p2_s h, List.getElem?_cons_succ]
theorem expP_s (h : l[0]? ≠ some 45) : expP (45 :: l) = expP l := by unfold expP; rw [hasE_s h, p3_s h, p4_s h, cutL_s]
theorem stripD_flip (s : List UInt8) (x : Int) : stripD (true, s, x) = flipD (stripD (false, s, x)) := by
  unfold flipD stripD
  simp only
  by_cases h : noughtsR (noughtsL s) = []
  · rw [if_pos h, if_pos h]; rfl
  · rw [if_neg h, if_neg h]; simp only; rw [if_neg h]; rfl
theorem bareP_s (h : l[0]? ≠ some 45) : bareP (45 :: l) = flipD (bareP l) := by
  have n1 : negP (45 :: l) = true := rfl
  have n2 : negP l = false := by unfold negP; simpa using h
  unfold bareP
  rw [wholeP_s h, behindP_s h, underP_s h, expP_s h, n1, n2]
  exact stripD_flip _ _
end
def turnL (s : List UInt8) : List UInt8 := if s[0]? = some 45 then s.tail else 45 :: s
theorem turnL_ok {s : List UInt8} (h : wrongP s = none) : wrongP (turnL s) = none ∧ bareP (turnL s) = flipD (bareP s) := by
  unfold turnL
  by_cases h0 : s[0]? = some 45
  · rw [if_pos h0]
    cases s with
    | nil => cases h0
    | cons c r =>
      have hc : c = 45 := by simpa using h0
      subst hc
      rw [List.tail_cons]
      have hr : r[0]? ≠ some 45 := by
        intro hr
        unfold wrongP at h
        have hp : p0 (45 :: r) = 1 := by unfold p0; rw [if_pos (by rfl)]
        rw [hp] at h
        have hd : dAt (45 :: r) 1 = false := by
          rw [dAt_s 0]
          unfold dAt
          rw [hr]; rfl
        rw [if_pos hd] at h
        cases h
      rw [wrongP_s hr] at h
      rw [bareP_s hr, flipD_flipD]
      refine ⟨?_, rfl⟩
      cases hh : wrongP r with
      | none => rfl
      | some q => rw [hh] at h; cases h
  · rw [if_neg h0, wrongP_s h0, bareP_s h0, h]
    exact ⟨rfl, rfl⟩
theorem turnL_len (s : List UInt8) : (turnL s).length ≤ s.length + 1 := by unfold turnL; split <;> simp <;> omega
def otherW (way : Int) : Int := if way = 4 then 5 else if way = 5 then 4 else way
theorem upP_flip (g : Bool) (c : Nat × Int × Bool) (way : Int) : upP (!g) c (otherW way) = upP g c way := by
  unfold upP otherW
  by_cases h4 : way = 4
  · subst h4; simp
  · rw [if_neg h4]
    by_cases h5 : way = 5
    · subst h5; simp
    · rw [if_neg h5, if_neg h4, if_neg h5, if_neg h4, if_neg h5]
theorem shortD_two (g g' : Bool) (l : List UInt8) (x : Int) : (shortD (g, l, x)).2 = (shortD (g', l, x)).2 := by
  unfold shortD
  simp only
  split <;> rfl
theorem floorP_neg (g g' : Bool) (l : List UInt8) (x : Int) : floorP (g, l, x) = floorP (g', l, x) := by
  have h := shortD_two g g' l x
  have h1 : numD (shortD (g, l, x)) = numD (shortD (g', l, x)) := by unfold numD; rw [h]
  have h2 : denD (shortD (g, l, x)) = denD (shortD (g', l, x)) := by unfold denD; rw [h]
  have h3 : topD (g, l, x) = topD (g', l, x) := rfl
  unfold floorP
  rw [h1, h2, h3]
theorem turn_round (d : Dm) (way : Int) (hb : Bare d) (hw : 1 ≤ way ∧ way ≤ 5) :
    (roundP d way = none ∧ roundP (flipD d) (otherW way) = none) ∨ (roundP d way = some 0 ∧ roundP (flipD d) (otherW way) = some 0) ∨
    ∃ b, 0 < b ∧ b < 9223372036854775808 ∧ ((roundP d way = some b ∧ roundP (flipD d) (otherW way) = some (b + 9223372036854775808)) ∨ (roundP d way = some (b + 9223372036854775808) ∧ roundP (flipD d) (otherW way) = some b)) := by
  by_cases hd : d.2.1 = []
  · have hd0 := hb.2.1 hd
    subst hd0
    have hf : flipD (false, [], 0) = (false, [], 0) := by unfold flipD; rw [if_pos rfl]
    have hfl : floorP (false, [], 0) = (0, 0, true) := by unfold floorP; rw [if_pos rfl]
    have hu : ∀ v, upP false (0, 0, true) v = false := fun v => by unfold upP; simp
    right; left
    rw [hf]
    unfold roundP roundC
    rw [hfl]
    simp only [hu]
    exact ⟨rfl, rfl⟩
  · have hf : flipD d = (!d.1, d.2.1, d.2.2) := by unfold flipD; rw [if_neg hd]
    have hfl : floorP (!d.1, d.2.1, d.2.2) = floorP d := floorP_neg _ d.1 d.2.1 d.2.2
    rw [hf]
    unfold roundP roundC
    rw [hfl]
    simp only
    rw [upP_flip]
    have hm := (show (if upP d.1 (floorP d) way = true then (floorP d).1 + 1 else (floorP d).1) = (if upP d.1 (floorP d) way = true then (floorP d).1 + 1 else (floorP d).1) from rfl)
    generalize (if upP d.1 (floorP d) way = true then (floorP d).1 + 1 else (floorP d).1) = b at *
    generalize d.1 = g
    unfold endP
    by_cases ho : most < b
    · left; rw [if_pos ho, if_pos ho]; exact ⟨rfl, rfl⟩
    · right
      rw [if_neg ho, if_neg ho]
      rcases Nat.eq_zero_or_pos b with rfl | hp
      · left; cases g <;> exact ⟨rfl, rfl⟩
      · right
        refine ⟨b, hp, by unfold most at ho; omega, ?_⟩
        cases g
        · left; simp [hp]
        · right; simp [hp]
end Go.Proofs.YtnajondbdeclmaaGreatDoor

namespace Go.Proofs.YtnajondbdeclmaaGreatDoor
set_option linter.unusedVariables false
set_option linter.unusedSimpArgs false

/-- Digits, cut behind the first n. -/
def cut8 (n : Nat) (l : List UInt8) : List UInt8 := if n < l.length then l.take n ++ [49] else l
theorem shortD_digits (d : Dm) : (shortD d).2.1 = cut8 800 d.2.1 := by unfold shortD cut8; split <;> rfl
theorem cut8_cons (n : Nat) (c : UInt8) (l : List UInt8) : cut8 (n + 1) (c :: l) = c :: cut8 n l := by
  unfold cut8
  rw [List.length_cons]
  by_cases h : n < l.length
  · rw [if_pos h, if_pos (by omega)]; simp
  · rw [if_neg h, if_neg (by omega)]
theorem cut8_le : ∀ (n : Nat) (l m : List UInt8), Lib.compareBytes l m ≤ 0 → Lib.compareBytes (cut8 n l) (cut8 n m) ≤ 0
  | n, [], m, _ => by
    have : cut8 n [] = [] := by unfold cut8; rw [if_neg (by simp)]
    rw [this]
    cases cut8 n m with
    | nil => decide
    | cons a b => show ((-1 : Int) ≤ 0); decide
  | _, _ :: _, [], h => absurd h (by show ¬ ((1 : Int) ≤ 0); decide)
  | 0, x :: l, y :: m, _ => by
    have e : ∀ (c : UInt8) (k : List UInt8), cut8 0 (c :: k) = [49] := fun c k => by unfold cut8; rw [if_pos (by simp)]; rfl
    rw [e, e, cmpB_self]
    decide
  | n + 1, x :: l, y :: m, h => by
    rw [cut8_cons, cut8_cons]
    rw [cmpB_cons] at h ⊢
    split
    · decide
    · rename_i h1
      rw [if_neg h1] at h
      split
      · rename_i h2; rw [if_pos h2] at h; exact absurd h (by decide)
      · rename_i h2
        rw [if_neg h2] at h
        exact cut8_le n l m h
theorem dval_cons (c : UInt8) (l : List UInt8) : dval (c :: l) = (c.toNat - 48) * 10 ^ l.length + dval l := by
  have h := dval_append [c] l
  rw [List.singleton_append] at h
  have : dval [c] = c.toNat - 48 := by simp [dval]
  rw [h, this]
theorem lex_le : ∀ (l m : List UInt8), (∀ c ∈ l, isD c = true) → (∀ c ∈ m, isD c = true) → Lib.compareBytes l m ≤ 0 → dval l * 10 ^ m.length ≤ dval m * 10 ^ l.length
  | [], m, _, _, _ => by rw [dval_nil, Nat.zero_mul]; exact Nat.zero_le _
  | _ :: _, [], _, _, h => absurd h (by show ¬ ((1 : Int) ≤ 0); decide)
  | x :: l, y :: m, hl, hm, h => by
    rw [cmpB_cons] at h
    rw [dval_cons, dval_cons, List.length_cons, List.length_cons, Nat.pow_succ, Nat.pow_succ]
    have hll : dval l < 10 ^ l.length := dval_lt l fun c hc => hl c (List.mem_cons_of_mem _ hc)
    have hx := hl x List.mem_cons_self
    have hy := hm y List.mem_cons_self
    unfold isD at hx hy
    simp only [decide_eq_true_eq] at hx hy
    rcases u8_tri x y with k | k | k
    · have k' := UInt8.lt_iff_toNat_lt.1 k
      generalize 10 ^ l.length = P at *
      generalize 10 ^ m.length = Q at *
      have h1 : (x.toNat - 48) * P + dval l ≤ (y.toNat - 48) * P := by
        have : (x.toNat - 48 + 1) * P ≤ (y.toNat - 48) * P := Nat.mul_le_mul_right _ (by omega)
        rw [Nat.add_mul] at this
        omega
      calc ((x.toNat - 48) * P + dval l) * (Q * 10) ≤ (y.toNat - 48) * P * (Q * 10) := Nat.mul_le_mul_right _ h1
        _ = (y.toNat - 48) * Q * (P * 10) := by simp only [Nat.mul_comm, Nat.mul_left_comm, Nat.mul_assoc]
        _ ≤ ((y.toNat - 48) * Q + dval m) * (P * 10) := Nat.mul_le_mul_right _ (by omega)
    · subst k
      rw [if_neg (u8_irr x), if_neg (u8_irr x)] at h
      have ih := lex_le l m (fun c hc => hl c (List.mem_cons_of_mem _ hc)) (fun c hc => hm c (List.mem_cons_of_mem _ hc)) h
      generalize 10 ^ l.length = P at *
      generalize 10 ^ m.length = Q at *
      generalize x.toNat - 48 = a at *
      rw [Nat.add_mul, Nat.add_mul]
      have e1 : a * P * (Q * 10) = a * Q * (P * 10) := by simp only [Nat.mul_comm, Nat.mul_left_comm, Nat.mul_assoc]
      have e2 : dval l * (Q * 10) = dval l * Q * 10 := (Nat.mul_assoc _ _ _).symm
      have e3 : dval m * (P * 10) = dval m * P * 10 := (Nat.mul_assoc _ _ _).symm
      rw [e1, e2, e3]
      omega
    · rw [if_neg (u8_asymm k), if_pos k] at h; exact absurd h (by decide)

/-- The magnitude that stands below has the lesser quotient. -/
theorem mag_le {d e : Dm} (hd : Lead d.2.1) (he : Lead e.2.1) (h : magP d e ≤ 0) : numD (shortD d) * denD (shortD e) ≤ numD (shortD e) * denD (shortD d) := by
  have h1 := shortD_lead hd
  have h2 := shortD_lead he
  have t1 := shortD_top d
  have t2 := shortD_top e
  have s1 := shortD_digits d
  have s2 := shortD_digits e
  have c := cut8_le 800 d.2.1 e.2.1
  rw [← s1, ← s2] at c
  unfold magP at h
  rw [← t1, ← t2] at h
  generalize Lib.compareBytes d.2.1 e.2.1 = q at *
  clear t1 t2 s1 s2 hd he
  generalize shortD d = D at *
  generalize shortD e = E at *
  unfold topD at h
  unfold numD denD
  have l1 := h1.len
  have l2 := h2.len
  split at h
  · rename_i hlt
    have a1 := h1.lt
    have a2 := h2.ge
    calc dval D.2.1 * 10 ^ D.2.2.toNat * 10 ^ (-E.2.2).toNat ≤ 10 ^ D.2.1.length * 10 ^ D.2.2.toNat * 10 ^ (-E.2.2).toNat := Nat.mul_le_mul_right _ (Nat.mul_le_mul_right _ (Nat.le_of_lt a1))
      _ = 10 ^ (D.2.1.length + D.2.2.toNat + (-E.2.2).toNat) := by rw [Nat.pow_add, Nat.pow_add]
      _ ≤ 10 ^ (E.2.1.length - 1 + E.2.2.toNat + (-D.2.2).toNat) := pow10_mono (by omega)
      _ = 10 ^ (E.2.1.length - 1) * 10 ^ E.2.2.toNat * 10 ^ (-D.2.2).toNat := by rw [Nat.pow_add, Nat.pow_add]
      _ ≤ dval E.2.1 * 10 ^ E.2.2.toNat * 10 ^ (-D.2.2).toNat := Nat.mul_le_mul_right _ (Nat.mul_le_mul_right _ a2)
  · split at h
    · exact absurd h (by decide)
    · have hx := lex_le D.2.1 E.2.1 h1.1 h2.1 (c h)
      have e : D.2.1.length + (D.2.2.toNat + (-E.2.2).toNat) = E.2.1.length + (E.2.2.toNat + (-D.2.2).toNat) := by omega
      rw [Nat.mul_assoc, Nat.mul_assoc, ← Nat.pow_add, ← Nat.pow_add]
      generalize D.2.2.toNat + (-E.2.2).toNat = u at *
      generalize E.2.2.toNat + (-D.2.2).toNat = v at *
      generalize D.2.1.length = m at *
      generalize E.2.1.length = n at *
      have hp : 0 < 10 ^ m * 10 ^ n := Nat.mul_pos (pow10 _) (pow10 _)
      refine Nat.le_of_mul_le_mul_right (c := 10 ^ m * 10 ^ n) ?_ hp
      calc dval D.2.1 * 10 ^ u * (10 ^ m * 10 ^ n) = dval D.2.1 * 10 ^ n * 10 ^ (m + u) := by rw [Nat.pow_add]; simp only [Nat.mul_comm, Nat.mul_left_comm, Nat.mul_assoc]
        _ ≤ dval E.2.1 * 10 ^ m * 10 ^ (m + u) := Nat.mul_le_mul_right _ hx
        _ = dval E.2.1 * 10 ^ v * (10 ^ m * 10 ^ n) := by rw [e, Nat.pow_add]; simp only [Nat.mul_comm, Nat.mul_left_comm, Nat.mul_assoc]

/-- The size of the float of bits x, with its sign, in units of 2^-1074. -/
def svI (x : Nat) : Int := if x < 9223372036854775808 then (Fl x : Int) else -(Fl (x - 9223372036854775808) : Int)
theorem roundP_cut {d : Dm} (h : Lead d.2.1) (way : Int) : roundP d way = endP d.1 (upB d.1 (numD (shortD d)) (denD (shortD d)) way) := by
  unfold roundP roundC
  rw [floorP_cut h]
  rfl
theorem endP_sv {g : Bool} {b x : Nat} (h : endP g b = some x) : svI x = (if g then -(Fl b : Int) else (Fl b : Int)) ∧ x % 9223372036854775808 ≤ most ∧ x < 18446744073709551616 ∧ b ≤ most := by
  unfold endP at h
  split at h
  · cases h
  · rename_i ho
    have hb : b ≤ 9218868437227405311 := by unfold most at ho; omega
    injection h with h
    subst h
    unfold svI most
    cases g with
    | false =>
      simp only [Bool.false_and, Bool.false_eq_true, if_false]
      rw [if_pos (by omega)]
      exact ⟨rfl, by omega, by omega, hb⟩
    | true =>
      rcases Nat.eq_zero_or_pos b with rfl | hp
      · exact ⟨by decide, by decide, by decide, by decide⟩
      · have : (true && decide (0 < b)) = true := by simpa using hp
        rw [if_pos this, if_neg (by omega), if_pos rfl, show b + 9223372036854775808 - 9223372036854775808 = b by omega]
        exact ⟨rfl, by omega, by omega, hb⟩
theorem round_nought (way : Int) : roundP (false, [], 0) way = some 0 := by
  have hfl : floorP (false, [], 0) = (0, 0, true) := by unfold floorP; rw [if_pos rfl]
  have hu : upP false (0, 0, true) way = false := by unfold upP; simp
  unfold roundP roundC
  rw [hfl]
  simp only [hu]
  rfl
theorem sv_nought : svI 0 = 0 := rfl
theorem sv_sign {d : Dm} (hb : Bare d) {way : Int} {x : Nat} (h : roundP d way = some x) : (signP d = -1 → svI x ≤ 0) ∧ (signP d = 0 → svI x = 0) ∧ (signP d = 1 → 0 ≤ svI x) := by
  by_cases hd : d.2.1 = []
  · have hs : signP d = 0 := by unfold signP; rw [if_pos hd]
    have := hb.2.1 hd
    subst this
    rw [round_nought] at h
    injection h with h
    subst h
    rw [hs]
    exact ⟨(fun h => absurd h (by decide)), (fun _ => rfl), (fun h => absurd h (by decide))⟩
  · have hs : signP d = if d.1 then -1 else 1 := by unfold signP; rw [if_neg hd]
    rw [roundP_cut (hb.lead hd)] at h
    have := (endP_sv h).1
    rw [hs, this]
    cases d.1
    · simp
    · simp
/-- The lesser one rounds to no greater float. -/
theorem round_mono {d e : Dm} (hd : Bare d) (he : Bare e) {way : Int} {x y : Nat} (hx : roundP d way = some x) (hy : roundP e way = some y) (h : cmpD d e ≤ 0) : svI x ≤ svI y := by
  have s1 := sv_sign hd hx
  have s2 := sv_sign he hy
  have r1 := signP_range d
  have r2 := signP_range e
  unfold cmpD at h
  split at h
  · rename_i hlt
    rcases r1 with h1 | h1 | h1 <;> rcases r2 with h2 | h2 | h2 <;> rw [h1, h2] at hlt <;> first | (exact absurd hlt (by decide)) | skip
    · have := s1.1 h1; have := s2.2.1 h2; omega
    · have := s1.1 h1; have := s2.2.2 h2; omega
    · have := s1.2.1 h1; have := s2.2.2 h2; omega
  · split at h
    · exact absurd h (by decide)
    · rename_i ha hb
      have hse : signP d = signP e := by omega
      split at h
      · rename_i hz
        have := s1.2.1 hz; have := s2.2.1 (by omega); omega
      · rename_i hz
        have nd : d.2.1 ≠ [] := fun h0 => hz (by unfold signP; rw [if_pos h0])
        have ne : e.2.1 ≠ [] := fun h0 => hz (by rw [hse]; unfold signP; rw [if_pos h0])
        have gd : signP d = if d.1 then -1 else 1 := by unfold signP; rw [if_neg nd]
        have ge : signP e = if e.1 then -1 else 1 := by unfold signP; rw [if_neg ne]
        rw [roundP_cut (hd.lead nd)] at hx
        rw [roundP_cut (he.lead ne)] at hy
        rw [(endP_sv hx).1, (endP_sv hy).1]
        rw [gd] at h
        rw [gd, ge] at hse
        have hg : d.1 = e.1 := by cases hd1 : d.1 <;> cases he1 : e.1 <;> rw [hd1, he1] at hse <;> simp at hse <;> rfl
        rw [← hg]
        cases hd1 : d.1 with
        | false =>
          rw [hd1] at h
          have hm : magP d e ≤ 0 := by simpa using h
          have := upB_mono false way (denD_pos (shortD d)) (denD_pos (shortD e)) (mag_le (hd.lead nd) (he.lead ne) hm)
          have := Fl_le.2 this
          simp only [Bool.false_eq_true, if_false]
          omega
        | true =>
          rw [hd1] at h
          have hm : magP e d ≤ 0 := by rw [magP_anti]; simp at h; omega
          have := upB_mono true way (denD_pos (shortD e)) (denD_pos (shortD d)) (mag_le (he.lead ne) (hd.lead nd) hm)
          have := Fl_le.2 this
          simp only [if_true]
          omega
theorem cmpD_eq {d e : Dm} (hd : Bare d) (he : Bare e) (h : cmpD d e = 0) : d = e := by
  unfold cmpD at h
  split at h
  · cases h
  · split at h
    · cases h
    · rename_i ha hb
      have hse : signP d = signP e := by omega
      split at h
      · rename_i hz
        have nd : d.2.1 = [] := by
          by_cases h0 : d.2.1 = []
          · exact h0
          · unfold signP at hz; rw [if_neg h0] at hz; split at hz <;> cases hz
        have ne : e.2.1 = [] := by
          rw [hse] at hz
          by_cases h0 : e.2.1 = []
          · exact h0
          · unfold signP at hz; rw [if_neg h0] at hz; split at hz <;> cases hz
        rw [hd.2.1 nd, he.2.1 ne]
      · rename_i hz
        have nd : d.2.1 ≠ [] := fun h0 => hz (by unfold signP; rw [if_pos h0])
        have ne : e.2.1 ≠ [] := fun h0 => hz (by rw [hse]; unfold signP; rw [if_pos h0])
        have gd : signP d = if d.1 then -1 else 1 := by unfold signP; rw [if_neg nd]
        have ge : signP e = if e.1 then -1 else 1 := by unfold signP; rw [if_neg ne]
        have hm : magP d e = 0 := by
          rcases signP_range d with k | k | k
          · rw [k] at h; omega
          · exact absurd k hz
          · rw [k] at h; omega
        rw [gd, ge] at hse
        have hg : d.1 = e.1 := by cases hd1 : d.1 <;> cases he1 : e.1 <;> rw [hd1, he1] at hse <;> simp at hse <;> rfl
        unfold magP at hm
        split at hm
        · cases hm
        · split at hm
          · cases hm
          · have hl := cmpB_eq hm
            rename_i hc hd'
            have ht : topD d = topD e := by omega
            unfold topD at ht
            rw [hl] at ht
            obtain ⟨g, l, x⟩ := d
            obtain ⟨g', l', x'⟩ := e
            simp only at hg hl ht
            subst hg hl
            have : x = x' := by omega
            rw [this]
end Go.Proofs.YtnajondbdeclmaaGreatDoor

namespace Go.Proofs.YtnajondbdeclmaaGreatDoor
set_option linter.unusedVariables false
set_option linter.unusedSimpArgs false

theorem f64_sign : FloatKind.f64.format.signWeight = 9223372036854775808 := by decide
theorem f64_binade : FloatKind.f64.format.binade = 4503599627370496 := by decide
theorem f64_inf : FloatKind.f64.format.infRung = 9218868437227405312 := by decide
theorem f64_least : FloatKind.f64.format.leastPlace = -1074 := by decide
theorem read_sv (x : Nat) (h1 : x < 18446744073709551616) (h2 : x % 9223372036854775808 ≤ most) :
    ∃ (s : Bool) (m : Nat) (e : Int), FloatKind.f64.format.read x = .number s m e ∧ -1074 ≤ e ∧ svI x = if s then -((m * 2 ^ (e + 1074).toNat : Nat) : Int) else ((m * 2 ^ (e + 1074).toNat : Nat) : Int) := by
  have hsv : svI x = if (x / 9223372036854775808 % 2 == 1) = true then -((Fl (x % 9223372036854775808) : Nat) : Int) else ((Fl (x % 9223372036854775808) : Nat) : Int) := by
    unfold svI
    by_cases hx : x < 9223372036854775808
    · have e : x / 9223372036854775808 = 0 := Nat.div_eq_of_lt hx
      rw [if_pos hx, e, Nat.mod_eq_of_lt hx, if_neg (by decide)]
    · have e : x / 9223372036854775808 = 1 := by omega
      have e2 : x % 9223372036854775808 = x - 9223372036854775808 := by omega
      rw [if_neg hx, e, e2, if_pos (by decide)]
  unfold Ieee.Format.read
  rw [f64_sign, f64_binade, f64_inf, f64_least]
  generalize (x / 9223372036854775808 % 2 == 1) = s at *
  have hm : x % 9223372036854775808 < 9218868437227405312 := by unfold most at h2; omega
  generalize x % 9223372036854775808 = r at *
  by_cases hr : r < 4503599627370496
  · refine ⟨s, r, -1074, ?_, by omega, ?_⟩
    · simp only [if_pos hr]
    · have hf : Fl r = r := by unfold Fl P52; rw [if_pos hr]
      rw [hsv, hf]
      simp
  · refine ⟨s, 4503599627370496 + r % 4503599627370496, -1074 + ((r / 4503599627370496 - 1 : Nat) : Int), ?_, by omega, ?_⟩
    · simp only [if_neg hr, if_pos hm]
    · have hf : Fl r = (4503599627370496 + r % 4503599627370496) * 2 ^ (r / 4503599627370496 - 1) := by unfold Fl P52; rw [if_neg hr]
      have he : (-1074 + ((r / 4503599627370496 - 1 : Nat) : Int) + 1074).toNat = r / 4503599627370496 - 1 := by omega
      rw [hsv, hf, he]
theorem cmp_int (a b : Int) : compare a b = if a < b then .lt else if a = b then .eq else .gt := rfl
theorem signed_sv {s : Bool} {m : Nat} {e base v : Int} (h1 : base ≤ e) (h2 : -1074 ≤ base) (hv : v = if s then -((m * 2 ^ (e + 1074).toNat : Nat) : Int) else ((m * 2 ^ (e + 1074).toNat : Nat) : Int)) :
    v = Ieee.signed s m (e - base).toNat * ((2 ^ (base + 1074).toNat : Nat) : Int) := by
  have hp : m * 2 ^ (e + 1074).toNat = m * 2 ^ (e - base).toNat * 2 ^ (base + 1074).toNat := by
    rw [Nat.mul_assoc, ← Nat.pow_add]
    congr 2
    omega
  unfold Ieee.signed
  rw [hv, hp, Nat.shiftLeft_eq]
  cases s
  · simp only [Bool.false_eq_true, if_false]; rw [Int.natCast_mul]
  · simp only [if_true]; rw [Int.natCast_mul, Int.neg_mul]
theorem order_sv {x y : Nat} (h1 : x < 18446744073709551616) (h2 : x % 9223372036854775808 ≤ most) (k1 : y < 18446744073709551616) (k2 : y % 9223372036854775808 ≤ most) :
    FloatKind.f64.format.order x y = some (if svI x < svI y then .lt else if svI x = svI y then .eq else .gt) := by
  obtain ⟨s, m, e, hr, he, hv⟩ := read_sv x h1 h2
  obtain ⟨t, n, f, kr, ke, kv⟩ := read_sv y k1 k2
  unfold Ieee.Format.order
  rw [hr, kr]
  show some (compare (Ieee.signed s m (e - min e f).toNat) (Ieee.signed t n (f - min e f).toNat)) = _
  have b1 : min e f ≤ e := by omega
  have b2 : min e f ≤ f := by omega
  have b3 : -1074 ≤ min e f := by omega
  generalize min e f = base at *
  rw [signed_sv b1 b3 hv, signed_sv b2 b3 kv, cmp_int]
  have hp : (0 : Int) < ((2 ^ (base + 1074).toNat : Nat) : Int) := Int.natCast_pos.2 (Nat.pow_pos (by omega))
  generalize ((2 ^ (base + 1074).toNat : Nat) : Int) = c at *
  generalize Ieee.signed s m (e - base).toNat = a
  generalize Ieee.signed t n (f - base).toNat = b
  have i1 : a * c < b * c ↔ a < b := Int.mul_lt_mul_right hp
  have i2 : a * c = b * c ↔ a = b := ⟨fun h => Int.eq_of_mul_eq_mul_right (by omega) h, fun h => by rw [h]⟩
  simp only [i1, i2]
end Go.Proofs.YtnajondbdeclmaaGreatDoor
