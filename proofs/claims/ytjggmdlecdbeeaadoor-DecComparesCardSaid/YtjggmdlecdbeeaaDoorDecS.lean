/- Plain law of decimals: their order. Plain law of literals: a minus put ahead, or taken away. -/
import Derived.Test.YtjggmdlecdbeeaaDoorDecD
namespace Go.Proofs.YtjggmdlecdbeeaaDoor
set_option linter.unusedVariables false
set_option linter.unusedSimpArgs false

theorem u8_tri (a b : UInt8) : a < b ∨ a = b ∨ b < a := by
  rcases Nat.lt_trichotomy a.toNat b.toNat with h | h | h
  · exact .inl (UInt8.lt_iff_toNat_lt.2 h)
  · exact .inr (.inl (UInt8.toNat_inj.1 h))
  · exact .inr (.inr (UInt8.lt_iff_toNat_lt.2 h))
theorem u8_asymm {a b : UInt8} (h : a < b) : ¬ b < a := by
  rw [UInt8.lt_iff_toNat_lt] at *; omega
theorem u8_trans {a b c : UInt8} (h : a < b) (k : b < c) : a < c := by
  rw [UInt8.lt_iff_toNat_lt] at *; omega
theorem u8_irr (a : UInt8) : ¬ a < a := by rw [UInt8.lt_iff_toNat_lt]; omega

theorem cmpB_cons (x y : UInt8) (a b : List UInt8) : Lib.compareBytes (x :: a) (y :: b) = if x < y then -1 else if y < x then 1 else Lib.compareBytes a b := rfl
theorem cmpB_self : ∀ a : List UInt8, Lib.compareBytes a a = 0
  | [] => rfl
  | x :: a => by rw [cmpB_cons, if_neg (u8_irr x), if_neg (u8_irr x)]; exact cmpB_self a
theorem cmpB_anti : ∀ a b : List UInt8, Lib.compareBytes b a = -Lib.compareBytes a b
  | [], [] => rfl
  | [], _ :: _ => rfl
  | _ :: _, [] => rfl
  | x :: a, y :: b => by
    rw [cmpB_cons, cmpB_cons]
    rcases u8_tri x y with h | h | h
    · rw [if_neg (u8_asymm h), if_pos h, if_pos h]; rfl
    · subst h
      rw [if_neg (u8_irr x), if_neg (u8_irr x), if_neg (u8_irr x), if_neg (u8_irr x)]
      exact cmpB_anti a b
    · rw [if_pos h, if_neg (u8_asymm h), if_pos h]
theorem cmpB_eq : ∀ {a b : List UInt8}, Lib.compareBytes a b = 0 → a = b
  | [], [], _ => rfl
  | [], _ :: _, h => by cases h
  | _ :: _, [], h => by cases h
  | x :: a, y :: b, h => by
    rw [cmpB_cons] at h
    rcases u8_tri x y with k | k | k
    · rw [if_pos k] at h; cases h
    · subst k
      rw [if_neg (u8_irr x), if_neg (u8_irr x)] at h
      rw [cmpB_eq h]
    · rw [if_neg (u8_asymm k), if_pos k] at h; cases h
theorem cmpB_trans : ∀ a b c : List UInt8, Lib.compareBytes a b ≤ 0 → Lib.compareBytes b c ≤ 0 → Lib.compareBytes a c ≤ 0 ∧ (Lib.compareBytes a b < 0 ∨ Lib.compareBytes b c < 0 → Lib.compareBytes a c < 0)
  | [], b, [], h, k => ⟨by decide, fun o => by
      cases b with
      | nil => rcases o with o | o <;> exact absurd o (by decide)
      | cons y b => exact absurd k (by show ¬ ((1 : Int) ≤ 0); decide)⟩
  | [], _, _ :: _, _, _ => ⟨by show ((-1 : Int) ≤ 0); decide, fun _ => by show ((-1 : Int) < 0); decide⟩
  | _ :: _, [], _, h, _ => absurd h (by show ¬ ((1 : Int) ≤ 0); decide)
  | _ :: _, _ :: _, [], _, k => absurd k (by show ¬ ((1 : Int) ≤ 0); decide)
  | x :: a, y :: b, z :: c, h, k => by
    rw [cmpB_cons] at h k
    rw [cmpB_cons x z, cmpB_cons x y, cmpB_cons y z]
    rcases u8_tri x y with h1 | h1 | h1
    · rcases u8_tri y z with h2 | h2 | h2
      · rw [if_pos (u8_trans h1 h2)]; exact ⟨by decide, fun _ => by decide⟩
      · subst h2; rw [if_pos h1]; exact ⟨by decide, fun _ => by decide⟩
      · rw [if_neg (u8_asymm h2), if_pos h2] at k; exact absurd k (by decide)
    · subst h1
      rcases u8_tri x z with h2 | h2 | h2
      · rw [if_pos h2]; exact ⟨by decide, fun _ => by decide⟩
      · subst h2
        rw [if_neg (u8_irr x), if_neg (u8_irr x)] at h k
        rw [if_neg (u8_irr x), if_neg (u8_irr x), if_neg (u8_irr x), if_neg (u8_irr x), if_neg (u8_irr x), if_neg (u8_irr x)]
        exact cmpB_trans a b c h k
      · rw [if_neg (u8_asymm h2), if_pos h2] at k; exact absurd k (by decide)
    · rw [if_neg (u8_asymm h1), if_pos h1] at h; exact absurd h (by decide)

theorem magP_self (d : Dm) : magP d d = 0 := by unfold magP; rw [if_neg (by omega), if_neg (by omega), cmpB_self]
theorem magP_anti (d e : Dm) : magP e d = -magP d e := by
  unfold magP
  rcases Int.lt_trichotomy (topD d) (topD e) with h | h | h
  · rw [if_neg (by omega), if_pos h, if_pos h]; rfl
  · rw [if_neg (by omega), if_neg (by omega), if_neg (by omega), if_neg (by omega), cmpB_anti]
  · rw [if_pos h, if_neg (by omega), if_pos h]
theorem magP_trans (d e f : Dm) (h : magP d e ≤ 0) (k : magP e f ≤ 0) : magP d f ≤ 0 ∧ (magP d e < 0 ∨ magP e f < 0 → magP d f < 0) := by
  unfold magP at *
  have t := cmpB_trans d.2.1 e.2.1 f.2.1
  generalize Lib.compareBytes d.2.1 e.2.1 = x at *
  generalize Lib.compareBytes e.2.1 f.2.1 = y at *
  generalize Lib.compareBytes d.2.1 f.2.1 = z at *
  generalize topD d = a at *
  generalize topD e = b at *
  generalize topD f = c at *
  repeat' split at h
  all_goals (repeat' split at k)
  all_goals (repeat' split)
  all_goals (first | omega | (refine ⟨?_, ?_⟩ <;> (try intro o) <;> omega) | (have t1 := t (by omega) (by omega); exact t1) | skip)
theorem cmpD_range (d e : Dm) : cmpD d e = -1 ∨ cmpD d e = 0 ∨ cmpD d e = 1 := by
  unfold cmpD
  have h1 := signP_range d
  have h2 := magP_range d e
  split
  · simp
  · split
    · simp
    · split
      · simp
      · rcases h1 with h | h | h <;> rcases h2 with k | k | k <;> rw [h, k] <;> simp
theorem cmpD_self (d : Dm) : cmpD d d = 0 := by
  unfold cmpD
  rw [if_neg (by omega), if_neg (by omega), magP_self]
  split <;> simp
theorem cmpD_anti (d e : Dm) : cmpD e d = -cmpD d e := by
  unfold cmpD
  rw [magP_anti d e]
  rcases Int.lt_trichotomy (signP d) (signP e) with h | h | h
  · rw [if_neg (by omega), if_pos h, if_pos h]; rfl
  · rw [h]
    have n : ¬ signP e < signP e := Int.lt_irrefl _
    simp only [if_neg n]
    split
    · rfl
    · rw [Int.mul_neg]
  · rw [if_pos h, if_neg (by omega), if_pos h]
theorem cmpD_trans (d e f : Dm) (h : cmpD d e ≤ 0) (k : cmpD e f ≤ 0) : cmpD d f ≤ 0 ∧ (cmpD d e < 0 ∨ cmpD e f < 0 → cmpD d f < 0) := by
  have r1 := signP_range d
  have r2 := signP_range e
  have r3 := signP_range f
  have t := magP_trans d e f
  have t' := magP_trans f e d
  rw [magP_anti e f, magP_anti d e, magP_anti d f] at t'
  have u1 := magP_range d e
  have u2 := magP_range e f
  have u3 := magP_range d f
  unfold cmpD at *
  generalize signP d = a at *
  generalize signP e = b at *
  generalize signP f = c at *
  generalize magP d e = x at *
  generalize magP e f = y at *
  generalize magP d f = z at *
  rcases r1 with rfl | rfl | rfl <;> rcases r2 with rfl | rfl | rfl <;> rcases r3 with rfl | rfl | rfl <;> simp at h k ⊢ <;> omega
end Go.Proofs.YtjggmdlecdbeeaaDoor

namespace Go.Proofs.YtjggmdlecdbeeaaDoor
set_option linter.unusedVariables false
set_option linter.unusedSimpArgs false

def flipD (d : Dm) : Dm := if d.2.1 = [] then d else (!d.1, d.2.1, d.2.2)
theorem flipD_flipD (d : Dm) : flipD (flipD d) = d := by
  unfold flipD
  by_cases h : d.2.1 = []
  · rw [if_pos h, if_pos h]
  · rw [if_neg h, if_neg h]; simp
section
variable {l : List UInt8}
theorem dAt_s (i : Nat) : dAt (45 :: l) (i + 1) = dAt l i := by unfold dAt; rw [List.getElem?_cons_succ]
theorem ov_s (i : Nat) : ov (45 :: l) (i + 1) = ov l i + 1 := by unfold ov; rw [List.drop_succ_cons]; omega
theorem cutL_s (i k : Nat) : cutL (45 :: l) (i + 1) (k + 1) = cutL l i k := by unfold cutL; rw [List.drop_succ_cons, show k + 1 - (i + 1) = k - i by omega]
theorem p0_s (h : l[0]? ≠ some 45) : p0 (45 :: l) = p0 l + 1 := by
  unfold p0
  rw [if_pos (by rfl), if_neg h]
theorem p1_s (h : l[0]? ≠ some 45) : p1 (45 :: l) = p1 l + 1 := by
  unfold p1
  rw [p0_s h, List.getElem?_cons_succ, ov_s]
  split <;> rfl
theorem pt_s (h : l[0]? ≠ some 45) : pt (45 :: l) = pt l := by unfold pt; rw [p1_s h, List.getElem?_cons_succ]
theorem p2_s (h : l[0]? ≠ some 45) : p2 (45 :: l) = p2 l + 1 := by
  unfold p2
  rw [pt_s h, p1_s h, ov_s]
  split <;> rfl
theorem hasE_s (h : l[0]? ≠ some 45) : hasE (45 :: l) = hasE l := by unfold hasE; rw [p2_s h, List.getElem?_cons_succ]
theorem sgn_s (h : l[0]? ≠ some 45) : sgn (45 :: l) = sgn l := by unfold sgn; rw [p2_s h, List.getElem?_cons_succ]
theorem p3_s (h : l[0]? ≠ some 45) : p3 (45 :: l) = p3 l + 1 := by
  unfold p3
  rw [sgn_s h, p2_s h]
  split <;> omega
theorem p4_s (h : l[0]? ≠ some 45) : p4 (45 :: l) = p4 l + 1 := by
  unfold p4
  rw [hasE_s h, p3_s h, ov_s, p2_s h]
  split <;> rfl
theorem wrongP_s (h : l[0]? ≠ some 45) : wrongP (45 :: l) = (wrongP l).map (· + 1) := by
  unfold wrongP
  rw [p0_s h, p1_s h, pt_s h, hasE_s h, p3_s h, p4_s h, dAt_s, dAt_s, dAt_s, List.length_cons]
  split
  · rfl
  · split
    · rfl
    · split
      · rfl
      · by_cases hl : p4 l < l.length
        · rw [if_pos hl, if_pos (by omega)]; rfl
        · rw [if_neg hl, if_neg (by omega)]; rfl
theorem wholeP_s (h : l[0]? ≠ some 45) : wholeP (45 :: l) = wholeP l := by unfold wholeP; rw [p0_s h, p1_s h, cutL_s]
theorem behindP_s (h : l[0]? ≠ some 45) : behindP (45 :: l) = behindP l := by unfold behindP; rw [pt_s h, p1_s h, p2_s h, cutL_s]
theorem underP_s (h : l[0]? ≠ some 45) : underP (45 :: l) = underP l := by unfold underP; rw [hasE_s h, p2_s h, List.getElem?_cons_succ]
theorem expP_s (h : l[0]? ≠ some 45) : expP (45 :: l) = expP l := by unfold expP; rw [hasE_s h, p3_s h, p4_s h, cutL_s]
theorem stripD_flip (s : List UInt8) (x : Int) : stripD (true, s, x) = flipD (stripD (false, s, x)) := by
  unfold flipD stripD
  simp only
  by_cases h : noughtsR (noughtsL s) = []
  · rw [if_pos h, if_pos h]; rfl
  · rw [if_neg h, if_neg h]; simp only; rw [if_neg h]; rfl
theorem bareP_s (h : l[0]? ≠ some 45) : bareP (45 :: l) = flipD (bareP l) := by
  have n1 : negP (45 :: l) = true := rfl
  have n2 : negP l = false := by unfold negP; simpa using h
  unfold bareP
  rw [wholeP_s h, behindP_s h, underP_s h, expP_s h, n1, n2]
  exact stripD_flip _ _
end
def turnL (s : List UInt8) : List UInt8 := if s[0]? = some 45 then s.tail else 45 :: s
theorem turnL_ok {s : List UInt8} (h : wrongP s = none) : wrongP (turnL s) = none ∧ bareP (turnL s) = flipD (bareP s) := by
  unfold turnL
  by_cases h0 : s[0]? = some 45
  · rw [if_pos h0]
    cases s with
    | nil => cases h0
    | cons c r =>
      have hc : c = 45 := by simpa using h0
      subst hc
      rw [List.tail_cons]
      have hr : r[0]? ≠ some 45 := by
        intro hr
        unfold wrongP at h
        have hp : p0 (45 :: r) = 1 := by unfold p0; rw [if_pos (by rfl)]
        rw [hp] at h
        have hd : dAt (45 :: r) 1 = false := by
          rw [dAt_s 0]
          unfold dAt
          rw [hr]; rfl
        rw [if_pos hd] at h
        cases h
      rw [wrongP_s hr] at h
      rw [bareP_s hr, flipD_flipD]
      refine ⟨?_, rfl⟩
      cases hh : wrongP r with
      | none => rfl
      | some q => rw [hh] at h; cases h
  · rw [if_neg h0, wrongP_s h0, bareP_s h0, h]
    exact ⟨rfl, rfl⟩
theorem turnL_len (s : List UInt8) : (turnL s).length ≤ s.length + 1 := by unfold turnL; split <;> simp <;> omega
def otherW (way : Int) : Int := if way = 4 then 5 else if way = 5 then 4 else way
theorem upP_flip (g : Bool) (c : Nat × Int × Bool) (way : Int) : upP (!g) c (otherW way) = upP g c way := by
  unfold upP otherW
  by_cases h4 : way = 4
  · subst h4; simp
  · rw [if_neg h4]
    by_cases h5 : way = 5
    · subst h5; simp
    · rw [if_neg h5, if_neg h4, if_neg h5, if_neg h4, if_neg h5]
theorem shortD_two (g g' : Bool) (l : List UInt8) (x : Int) : (shortD (g, l, x)).2 = (shortD (g', l, x)).2 := by
  unfold shortD
  simp only
  split <;> rfl
theorem floorP_neg (g g' : Bool) (l : List UInt8) (x : Int) : floorP (g, l, x) = floorP (g', l, x) := by
  have h := shortD_two g g' l x
  have h1 : numD (shortD (g, l, x)) = numD (shortD (g', l, x)) := by unfold numD; rw [h]
  have h2 : denD (shortD (g, l, x)) = denD (shortD (g', l, x)) := by unfold denD; rw [h]
  have h3 : topD (g, l, x) = topD (g', l, x) := rfl
  unfold floorP
  rw [h1, h2, h3]
theorem turn_round (d : Dm) (way : Int) (hb : Bare d) (hw : 1 ≤ way ∧ way ≤ 5) :
    (roundP d way = none ∧ roundP (flipD d) (otherW way) = none) ∨ (roundP d way = some 0 ∧ roundP (flipD d) (otherW way) = some 0) ∨
    ∃ b, 0 < b ∧ b < 9223372036854775808 ∧ ((roundP d way = some b ∧ roundP (flipD d) (otherW way) = some (b + 9223372036854775808)) ∨ (roundP d way = some (b + 9223372036854775808) ∧ roundP (flipD d) (otherW way) = some b)) := by
  by_cases hd : d.2.1 = []
  · have hd0 := hb.2.1 hd
    subst hd0
    have hf : flipD (false, [], 0) = (false, [], 0) := by unfold flipD; rw [if_pos rfl]
    have hfl : floorP (false, [], 0) = (0, 0, true) := by unfold floorP; rw [if_pos rfl]
    have hu : ∀ v, upP false (0, 0, true) v = false := fun v => by unfold upP; simp
    right; left
    rw [hf]
    unfold roundP roundC
    rw [hfl]
    simp only [hu]
    exact ⟨rfl, rfl⟩
  · have hf : flipD d = (!d.1, d.2.1, d.2.2) := by unfold flipD; rw [if_neg hd]
    have hfl : floorP (!d.1, d.2.1, d.2.2) = floorP d := floorP_neg _ d.1 d.2.1 d.2.2
    rw [hf]
    unfold roundP roundC
    rw [hfl]
    simp only
    rw [upP_flip]
    have hm := (show (if upP d.1 (floorP d) way = true then (floorP d).1 + 1 else (floorP d).1) = (if upP d.1 (floorP d) way = true then (floorP d).1 + 1 else (floorP d).1) from rfl)
    generalize (if upP d.1 (floorP d) way = true then (floorP d).1 + 1 else (floorP d).1) = b at *
    generalize d.1 = g
    unfold endP
    by_cases ho : most < b
    · left; rw [if_pos ho, if_pos ho]; exact ⟨rfl, rfl⟩
    · right
      rw [if_neg ho, if_neg ho]
      rcases Nat.eq_zero_or_pos b with rfl | hp
      · left; cases g <;> exact ⟨rfl, rfl⟩
      · right
        refine ⟨b, hp, by unfold most at ho; omega, ?_⟩
        cases g
        · left; simp [hp]
        · right; simp [hp]
end Go.Proofs.YtjggmdlecdbeeaaDoor
