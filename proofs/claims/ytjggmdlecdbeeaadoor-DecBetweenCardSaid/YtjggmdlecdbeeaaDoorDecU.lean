/- Plain law of decimals: the lesser one rounds to no greater float; the order of floats. -/
import Derived.Test.YtjggmdlecdbeeaaDoorDecS
import Derived.WalkLawsBesides
namespace Go.Proofs.YtjggmdlecdbeeaaDoor
set_option linter.unusedVariables false
set_option linter.unusedSimpArgs false

/-- Digits, cut behind the first n. -/
def cut8 (n : Nat) (l : List UInt8) : List UInt8 := if n < l.length then l.take n ++ [49] else l
theorem shortD_digits (d : Dm) : (shortD d).2.1 = cut8 800 d.2.1 := by unfold shortD cut8; split <;> rfl
theorem cut8_cons (n : Nat) (c : UInt8) (l : List UInt8) : cut8 (n + 1) (c :: l) = c :: cut8 n l := by
  unfold cut8
  rw [List.length_cons]
  by_cases h : n < l.length
  · rw [if_pos h, if_pos (by omega)]; simp
  · rw [if_neg h, if_neg (by omega)]
theorem cut8_le : ∀ (n : Nat) (l m : List UInt8), Lib.compareBytes l m ≤ 0 → Lib.compareBytes (cut8 n l) (cut8 n m) ≤ 0
  | n, [], m, _ => by
    have : cut8 n [] = [] := by unfold cut8; rw [if_neg (by simp)]
    rw [this]
    cases cut8 n m with
    | nil => decide
    | cons a b => show ((-1 : Int) ≤ 0); decide
  | _, _ :: _, [], h => absurd h (by show ¬ ((1 : Int) ≤ 0); decide)
  | 0, x :: l, y :: m, _ => by
    have e : ∀ (c : UInt8) (k : List UInt8), cut8 0 (c :: k) = [49] := fun c k => by unfold cut8; rw [if_pos (by simp)]; rfl
    rw [e, e, cmpB_self]
    decide
  | n + 1, x :: l, y :: m, h => by
    rw [cut8_cons, cut8_cons]
    rw [cmpB_cons] at h ⊢
    split
    · decide
    · rename_i h1
      rw [if_neg h1] at h
      split
      · rename_i h2; rw [if_pos h2] at h; exact absurd h (by decide)
      · rename_i h2
        rw [if_neg h2] at h
        exact cut8_le n l m h
theorem dval_cons (c : UInt8) (l : List UInt8) : dval (c :: l) = (c.toNat - 48) * 10 ^ l.length + dval l := by
  have h := dval_append [c] l
  rw [List.singleton_append] at h
  have : dval [c] = c.toNat - 48 := by simp [dval]
  rw [h, this]
theorem lex_le : ∀ (l m : List UInt8), (∀ c ∈ l, isD c = true) → (∀ c ∈ m, isD c = true) → Lib.compareBytes l m ≤ 0 → dval l * 10 ^ m.length ≤ dval m * 10 ^ l.length
  | [], m, _, _, _ => by rw [dval_nil, Nat.zero_mul]; exact Nat.zero_le _
  | _ :: _, [], _, _, h => absurd h (by show ¬ ((1 : Int) ≤ 0); decide)
  | x :: l, y :: m, hl, hm, h => by
    rw [cmpB_cons] at h
    rw [dval_cons, dval_cons, List.length_cons, List.length_cons, Nat.pow_succ, Nat.pow_succ]
    have hll : dval l < 10 ^ l.length := dval_lt l fun c hc => hl c (List.mem_cons_of_mem _ hc)
    have hx := hl x List.mem_cons_self
    have hy := hm y List.mem_cons_self
    unfold isD at hx hy
    simp only [decide_eq_true_eq] at hx hy
    rcases u8_tri x y with k | k | k
    · have k' := UInt8.lt_iff_toNat_lt.1 k
      generalize 10 ^ l.length = P at *
      generalize 10 ^ m.length = Q at *
      have h1 : (x.toNat - 48) * P + dval l ≤ (y.toNat - 48) * P := by
        have : (x.toNat - 48 + 1) * P ≤ (y.toNat - 48) * P := Nat.mul_le_mul_right _ (by omega)
        rw [Nat.add_mul] at this
        omega
      calc ((x.toNat - 48) * P + dval l) * (Q * 10) ≤ (y.toNat - 48) * P * (Q * 10) := Nat.mul_le_mul_right _ h1
        _ = (y.toNat - 48) * Q * (P * 10) := by simp only [Nat.mul_comm, Nat.mul_left_comm, Nat.mul_assoc]
        _ ≤ ((y.toNat - 48) * Q + dval m) * (P * 10) := Nat.mul_le_mul_right _ (by omega)
    · subst k
      rw [if_neg (u8_irr x), if_neg (u8_irr x)] at h
      have ih := lex_le l m (fun c hc => hl c (List.mem_cons_of_mem _ hc)) (fun c hc => hm c (List.mem_cons_of_mem _ hc)) h
      generalize 10 ^ l.length = P at *
      generalize 10 ^ m.length = Q at *
      generalize x.toNat - 48 = a at *
      rw [Nat.add_mul, Nat.add_mul]
      have e1 : a * P * (Q * 10) = a * Q * (P * 10) := by simp only [Nat.mul_comm, Nat.mul_left_comm, Nat.mul_assoc]
      have e2 : dval l * (Q * 10) = dval l * Q * 10 := (Nat.mul_assoc _ _ _).symm
      have e3 : dval m * (P * 10) = dval m * P * 10 := (Nat.mul_assoc _ _ _).symm
      rw [e1, e2, e3]
      omega
    · rw [if_neg (u8_asymm k), if_pos k] at h; exact absurd h (by decide)

/-- The magnitude that stands below has the lesser quotient. -/
theorem mag_le {d e : Dm} (hd : Lead d.2.1) (he : Lead e.2.1) (h : magP d e ≤ 0) : numD (shortD d) * denD (shortD e) ≤ numD (shortD e) * denD (shortD d) := by
  have h1 := shortD_lead hd
  have h2 := shortD_lead he
  have t1 := shortD_top d
  have t2 := shortD_top e
  have s1 := shortD_digits d
  have s2 := shortD_digits e
  have c := cut8_le 800 d.2.1 e.2.1
  rw [← s1, ← s2] at c
  unfold magP at h
  rw [← t1, ← t2] at h
  generalize Lib.compareBytes d.2.1 e.2.1 = q at *
  clear t1 t2 s1 s2 hd he
  generalize shortD d = D at *
  generalize shortD e = E at *
  unfold topD at h
  unfold numD denD
  have l1 := h1.len
  have l2 := h2.len
  split at h
  · rename_i hlt
    have a1 := h1.lt
    have a2 := h2.ge
    calc dval D.2.1 * 10 ^ D.2.2.toNat * 10 ^ (-E.2.2).toNat ≤ 10 ^ D.2.1.length * 10 ^ D.2.2.toNat * 10 ^ (-E.2.2).toNat := Nat.mul_le_mul_right _ (Nat.mul_le_mul_right _ (Nat.le_of_lt a1))
      _ = 10 ^ (D.2.1.length + D.2.2.toNat + (-E.2.2).toNat) := by rw [Nat.pow_add, Nat.pow_add]
      _ ≤ 10 ^ (E.2.1.length - 1 + E.2.2.toNat + (-D.2.2).toNat) := pow10_mono (by omega)
      _ = 10 ^ (E.2.1.length - 1) * 10 ^ E.2.2.toNat * 10 ^ (-D.2.2).toNat := by rw [Nat.pow_add, Nat.pow_add]
      _ ≤ dval E.2.1 * 10 ^ E.2.2.toNat * 10 ^ (-D.2.2).toNat := Nat.mul_le_mul_right _ (Nat.mul_le_mul_right _ a2)
  · split at h
    · exact absurd h (by decide)
    · have hx := lex_le D.2.1 E.2.1 h1.1 h2.1 (c h)
      have e : D.2.1.length + (D.2.2.toNat + (-E.2.2).toNat) = E.2.1.length + (E.2.2.toNat + (-D.2.2).toNat) := by omega
      rw [Nat.mul_assoc, Nat.mul_assoc, ← Nat.pow_add, ← Nat.pow_add]
      generalize D.2.2.toNat + (-E.2.2).toNat = u at *
      generalize E.2.2.toNat + (-D.2.2).toNat = v at *
      generalize D.2.1.length = m at *
      generalize E.2.1.length = n at *
      have hp : 0 < 10 ^ m * 10 ^ n := Nat.mul_pos (pow10 _) (pow10 _)
      refine Nat.le_of_mul_le_mul_right (c := 10 ^ m * 10 ^ n) ?_ hp
      calc dval D.2.1 * 10 ^ u * (10 ^ m * 10 ^ n) = dval D.2.1 * 10 ^ n * 10 ^ (m + u) := by rw [Nat.pow_add]; simp only [Nat.mul_comm, Nat.mul_left_comm, Nat.mul_assoc]
        _ ≤ dval E.2.1 * 10 ^ m * 10 ^ (m + u) := Nat.mul_le_mul_right _ hx
        _ = dval E.2.1 * 10 ^ v * (10 ^ m * 10 ^ n) := by rw [e, Nat.pow_add]; simp only [Nat.mul_comm, Nat.mul_left_comm, Nat.mul_assoc]

/-- The size of the float of bits x, with its sign, in units of 2^-1074. -/
def svI (x : Nat) : Int := if x < 9223372036854775808 then (Fl x : Int) else -(Fl (x - 9223372036854775808) : Int)
theorem roundP_cut {d : Dm} (h : Lead d.2.1) (way : Int) : roundP d way = endP d.1 (upB d.1 (numD (shortD d)) (denD (shortD d)) way) := by
  unfold roundP roundC
  rw [floorP_cut h]
  rfl
theorem endP_sv {g : Bool} {b x : Nat} (h : endP g b = some x) : svI x = (if g then -(Fl b : Int) else (Fl b : Int)) ∧ x % 9223372036854775808 ≤ most ∧ x < 18446744073709551616 ∧ b ≤ most := by
  unfold endP at h
  split at h
  · cases h
  · rename_i ho
    have hb : b ≤ 9218868437227405311 := by unfold most at ho; omega
    injection h with h
    subst h
    unfold svI most
    cases g with
    | false =>
      simp only [Bool.false_and, Bool.false_eq_true, if_false]
      rw [if_pos (by omega)]
      exact ⟨rfl, by omega, by omega, hb⟩
    | true =>
      rcases Nat.eq_zero_or_pos b with rfl | hp
      · exact ⟨by decide, by decide, by decide, by decide⟩
      · have : (true && decide (0 < b)) = true := by simpa using hp
        rw [if_pos this, if_neg (by omega), if_pos rfl, show b + 9223372036854775808 - 9223372036854775808 = b by omega]
        exact ⟨rfl, by omega, by omega, hb⟩
theorem round_nought (way : Int) : roundP (false, [], 0) way = some 0 := by
  have hfl : floorP (false, [], 0) = (0, 0, true) := by unfold floorP; rw [if_pos rfl]
  have hu : upP false (0, 0, true) way = false := by unfold upP; simp
  unfold roundP roundC
  rw [hfl]
  simp only [hu]
  rfl
theorem sv_nought : svI 0 = 0 := rfl
theorem sv_sign {d : Dm} (hb : Bare d) {way : Int} {x : Nat} (h : roundP d way = some x) : (signP d = -1 → svI x ≤ 0) ∧ (signP d = 0 → svI x = 0) ∧ (signP d = 1 → 0 ≤ svI x) := by
  by_cases hd : d.2.1 = []
  · have hs : signP d = 0 := by unfold signP; rw [if_pos hd]
    have := hb.2.1 hd
    subst this
    rw [round_nought] at h
    injection h with h
    subst h
    rw [hs]
    exact ⟨(fun h => absurd h (by decide)), (fun _ => rfl), (fun h => absurd h (by decide))⟩
  · have hs : signP d = if d.1 then -1 else 1 := by unfold signP; rw [if_neg hd]
    rw [roundP_cut (hb.lead hd)] at h
    have := (endP_sv h).1
    rw [hs, this]
    cases d.1
    · simp
    · simp
/-- The lesser one rounds to no greater float. -/
theorem round_mono {d e : Dm} (hd : Bare d) (he : Bare e) {way : Int} {x y : Nat} (hx : roundP d way = some x) (hy : roundP e way = some y) (h : cmpD d e ≤ 0) : svI x ≤ svI y := by
  have s1 := sv_sign hd hx
  have s2 := sv_sign he hy
  have r1 := signP_range d
  have r2 := signP_range e
  unfold cmpD at h
  split at h
  · rename_i hlt
    rcases r1 with h1 | h1 | h1 <;> rcases r2 with h2 | h2 | h2 <;> rw [h1, h2] at hlt <;> first | (exact absurd hlt (by decide)) | skip
    · have := s1.1 h1; have := s2.2.1 h2; omega
    · have := s1.1 h1; have := s2.2.2 h2; omega
    · have := s1.2.1 h1; have := s2.2.2 h2; omega
  · split at h
    · exact absurd h (by decide)
    · rename_i ha hb
      have hse : signP d = signP e := by omega
      split at h
      · rename_i hz
        have := s1.2.1 hz; have := s2.2.1 (by omega); omega
      · rename_i hz
        have nd : d.2.1 ≠ [] := fun h0 => hz (by unfold signP; rw [if_pos h0])
        have ne : e.2.1 ≠ [] := fun h0 => hz (by rw [hse]; unfold signP; rw [if_pos h0])
        have gd : signP d = if d.1 then -1 else 1 := by unfold signP; rw [if_neg nd]
        have ge : signP e = if e.1 then -1 else 1 := by unfold signP; rw [if_neg ne]
        rw [roundP_cut (hd.lead nd)] at hx
        rw [roundP_cut (he.lead ne)] at hy
        rw [(endP_sv hx).1, (endP_sv hy).1]
        rw [gd] at h
        rw [gd, ge] at hse
        have hg : d.1 = e.1 := by cases hd1 : d.1 <;> cases he1 : e.1 <;> rw [hd1, he1] at hse <;> simp at hse <;> rfl
        rw [← hg]
        cases hd1 : d.1 with
        | false =>
          rw [hd1] at h
          have hm : magP d e ≤ 0 := by simpa using h
          have := upB_mono false way (denD_pos (shortD d)) (denD_pos (shortD e)) (mag_le (hd.lead nd) (he.lead ne) hm)
          have := Fl_le.2 this
          simp only [Bool.false_eq_true, if_false]
          omega
        | true =>
          rw [hd1] at h
          have hm : magP e d ≤ 0 := by rw [magP_anti]; simp at h; omega
          have := upB_mono true way (denD_pos (shortD e)) (denD_pos (shortD d)) (mag_le (he.lead ne) (hd.lead nd) hm)
          have := Fl_le.2 this
          simp only [if_true]
          omega
theorem cmpD_eq {d e : Dm} (hd : Bare d) (he : Bare e) (h : cmpD d e = 0) : d = e := by
  unfold cmpD at h
  split at h
  · cases h
  · split at h
    · cases h
    · rename_i ha hb
      have hse : signP d = signP e := by omega
      split at h
      · rename_i hz
        have nd : d.2.1 = [] := by
          by_cases h0 : d.2.1 = []
          · exact h0
          · unfold signP at hz; rw [if_neg h0] at hz; split at hz <;> cases hz
        have ne : e.2.1 = [] := by
          rw [hse] at hz
          by_cases h0 : e.2.1 = []
          · exact h0
          · unfold signP at hz; rw [if_neg h0] at hz; split at hz <;> cases hz
        rw [hd.2.1 nd, he.2.1 ne]
      · rename_i hz
        have nd : d.2.1 ≠ [] := fun h0 => hz (by unfold signP; rw [if_pos h0])
        have ne : e.2.1 ≠ [] := fun h0 => hz (by rw [hse]; unfold signP; rw [if_pos h0])
        have gd : signP d = if d.1 then -1 else 1 := by unfold signP; rw [if_neg nd]
        have ge : signP e = if e.1 then -1 else 1 := by unfold signP; rw [if_neg ne]
        have hm : magP d e = 0 := by
          rcases signP_range d with k | k | k
          · rw [k] at h; omega
          · exact absurd k hz
          · rw [k] at h; omega
        rw [gd, ge] at hse
        have hg : d.1 = e.1 := by cases hd1 : d.1 <;> cases he1 : e.1 <;> rw [hd1, he1] at hse <;> simp at hse <;> rfl
        unfold magP at hm
        split at hm
        · cases hm
        · split at hm
          · cases hm
          · have hl := cmpB_eq hm
            rename_i hc hd'
            have ht : topD d = topD e := by omega
            unfold topD at ht
            rw [hl] at ht
            obtain ⟨g, l, x⟩ := d
            obtain ⟨g', l', x'⟩ := e
            simp only at hg hl ht
            subst hg hl
            have : x = x' := by omega
            rw [this]
end Go.Proofs.YtjggmdlecdbeeaaDoor
