/- Plain: texts that are put together as a literal are read as such. -/
import Derived.Test.YtnajondbdeclmaaGreatDoorDecP
import Derived.Lib.ItoaNum
namespace Go.Proofs.YtnajondbdeclmaaGreatDoor
set_option linter.unusedVariables false
set_option linter.unusedSimpArgs false

theorem get_app (a b : List UInt8) (i : Nat) : (a ++ b)[a.length + i]? = b[i]? := by
  rw [List.getElem?_append_right (by omega)]
  congr 1
  omega
theorem get_app0 (a b : List UInt8) : (a ++ b)[a.length]? = b.head? := by
  have := get_app a b 0
  rw [Nat.add_zero] at this
  rw [this, List.head?_eq_getElem?]
theorem takeW_all : ∀ {l : List UInt8}, (∀ c ∈ l, isD c = true) → l.takeWhile isD = l := by
  intro l
  induction l with
  | nil => intro _; rfl
  | cons a b ih =>
    intro h
    rw [List.takeWhile_cons, if_pos (h a (List.mem_cons_self ..)), ih (fun c hc => h c (List.mem_cons_of_mem _ hc))]
theorem takeW_app : ∀ {l r : List UInt8}, (∀ c ∈ l, isD c = true) → (∀ c, r.head? = some c → isD c = false) → (l ++ r).takeWhile isD = l := by
  intro l r
  induction l with
  | nil =>
    intro _ h
    cases r with
    | nil => rfl
    | cons a b => rw [List.nil_append, List.takeWhile_cons, if_neg (by rw [h a rfl]; simp)]
  | cons a b ih =>
    intro h h2
    rw [List.cons_append, List.takeWhile_cons, if_pos (h a (List.mem_cons_self ..)), ih (fun c hc => h c (List.mem_cons_of_mem _ hc)) h2]
theorem ov_mid {a l r : List UInt8} (hl : ∀ c ∈ l, isD c = true) (hr : ∀ c, r.head? = some c → isD c = false) : ov (a ++ (l ++ r)) a.length = a.length + l.length := by
  unfold ov
  rw [List.drop_left, takeW_app hl hr]
theorem cut_mid (a l r : List UInt8) : cutL (a ++ (l ++ r)) a.length (a.length + l.length) = l := by
  unfold cutL
  rw [List.drop_left, Nat.add_sub_cancel_left, List.take_left]
theorem dAt_mid0 {a l r : List UInt8} (hl : ∀ c ∈ l, isD c = true) (h0 : l ≠ []) : dAt (a ++ (l ++ r)) a.length = true := by
  unfold dAt
  rw [get_app0]
  cases l with
  | nil => exact absurd rfl h0
  | cons c l => exact hl c (List.mem_cons_self ..)

def pB (B : List UInt8) : List UInt8 := if B = [] then [] else 46 :: B
def pE (sg D : List UInt8) : List UInt8 := if D = [] then [] else 101 :: (sg ++ D)
def gS (g : Bool) : List UInt8 := if g then [45] else []
/-- A text that is put together of a minus, digits, digits behind the point, an exponent. -/
structure LitT (g : Bool) (W B sg D : List UInt8) : Prop where
  hW : ∀ c ∈ W, isD c = true
  W0 : W ≠ []
  Wl : W = [48] ∨ W.head? ≠ some 48
  hB : ∀ c ∈ B, isD c = true
  hD : ∀ c ∈ D, isD c = true
  hs : sg = [] ∨ sg = [43] ∨ sg = [45]
def litT (g : Bool) (W B sg D : List UInt8) : List UInt8 := gS g ++ (W ++ (pB B ++ pE sg D))

theorem isD_not {c : UInt8} (h : c = 43 ∨ c = 45 ∨ c = 46 ∨ c = 101) : isD c = false := by
  rcases h with rfl | rfl | rfl | rfl <;> decide
theorem isD_ne {c : UInt8} (h : isD c = true) : c ≠ 43 ∧ c ≠ 45 ∧ c ≠ 46 ∧ c ≠ 101 := by
  refine ⟨?_, ?_, ?_, ?_⟩ <;> (rintro rfl; revert h; decide)
theorem pE_head (sg D : List UInt8) : (pE sg D).head? = none ∨ (pE sg D).head? = some 101 := by
  unfold pE; split <;> simp
theorem pBE_head (B sg D : List UInt8) : (pB B ++ pE sg D).head? = none ∨ (pB B ++ pE sg D).head? = some 46 ∨ (pB B ++ pE sg D).head? = some 101 := by
  unfold pB
  split
  · rcases pE_head sg D with h | h
    · exact .inl h
    · exact .inr (.inr h)
  · exact .inr (.inl rfl)

section
variable {g : Bool} {W B sg D : List UInt8}
theorem LitT.head (h : LitT g W B sg D) (r : List UInt8) : ∃ c, (W ++ r).head? = some c ∧ isD c = true ∧ W.head? = some c := by
  cases hw : W with
  | nil => exact absurd hw h.W0
  | cons c l => exact ⟨c, rfl, h.hW c (by rw [hw]; exact List.mem_cons_self ..), rfl⟩
theorem LitT.lp0 (h : LitT g W B sg D) : p0 (litT g W B sg D) = (gS g).length := by
  unfold Go.Proofs.YtnajondbdeclmaaGreatDoor.p0 litT gS
  cases g with
  | true => rfl
  | false =>
    obtain ⟨c, hc, hd, _⟩ := h.head (pB B ++ pE sg D)
    simp only [Bool.false_eq_true, if_false, List.nil_append, List.length_nil]
    rw [← List.head?_eq_getElem?, hc, if_neg]
    intro e
    injection e with e
    exact (isD_ne hd).2.1 e
theorem LitT.lneg (h : LitT g W B sg D) : negP (litT g W B sg D) = g := by
  unfold negP litT gS
  cases g with
  | true => rfl
  | false =>
    obtain ⟨c, hc, hd, _⟩ := h.head (pB B ++ pE sg D)
    simp only [Bool.false_eq_true, if_false, List.nil_append]
    rw [← List.head?_eq_getElem?, hc, beq_eq_false_iff_ne]
    intro e
    injection e with e
    exact (isD_ne hd).2.1 e
theorem LitT.lp1 (h : LitT g W B sg D) : p1 (litT g W B sg D) = (gS g).length + W.length := by
  unfold Go.Proofs.YtnajondbdeclmaaGreatDoor.p1
  rw [h.lp0]
  unfold litT
  obtain ⟨c, hc, hd, hw⟩ := h.head (pB B ++ pE sg D)
  rw [get_app0, hc]
  rcases h.Wl with h1 | h1
  · have : c = 48 := by rw [h1] at hw; injection hw with e; exact e.symm
    rw [if_pos (by rw [this]), h1]; rfl
  · rw [if_neg (by rw [← hw]; exact h1), ov_mid h.hW]
    intro c' hc'
    rcases pBE_head B sg D with h2 | h2 | h2
    · rw [h2] at hc'; cases hc'
    · rw [h2] at hc'; injection hc' with e; exact isD_not (.inr (.inr (.inl e.symm)))
    · rw [h2] at hc'; injection hc' with e; exact isD_not (.inr (.inr (.inr e.symm)))
theorem LitT.at1 (h : LitT g W B sg D) : litT g W B sg D = (gS g ++ W) ++ (pB B ++ pE sg D) := by unfold litT; rw [List.append_assoc]
theorem LitT.lpt (h : LitT g W B sg D) : pt (litT g W B sg D) = decide (B ≠ []) := by
  unfold Go.Proofs.YtnajondbdeclmaaGreatDoor.pt
  rw [h.lp1, h.at1, ← List.length_append, get_app0]
  by_cases hB : B = []
  · rw [hB]
    have e : pB [] ++ pE sg D = pE sg D := by unfold pB; rw [if_pos rfl]; rfl
    rw [e]
    rcases pE_head sg D with h2 | h2 <;> rw [h2] <;> simp
  · have e : (pB B ++ pE sg D).head? = some 46 := by unfold pB; rw [if_neg hB]; rfl
    rw [e]
    simp [hB]
theorem LitT.lp2 (h : LitT g W B sg D) : p2 (litT g W B sg D) = (gS g).length + W.length + (pB B).length := by
  unfold Go.Proofs.YtnajondbdeclmaaGreatDoor.p2
  rw [h.lpt]
  by_cases hB : B = []
  · rw [hB]
    simp only [ne_eq, not_true_eq_false, decide_false, Bool.false_eq_true, if_false]
    rw [← hB, h.lp1, hB]
    unfold pB
    rw [if_pos rfl]; rfl
  · rw [if_pos (by simpa using hB), h.lp1, h.at1]
    have e : (gS g ++ W) ++ (pB B ++ pE sg D) = ((gS g ++ W) ++ [46]) ++ (B ++ pE sg D) := by
      unfold pB; rw [if_neg hB]; simp
    have l : (gS g).length + W.length + 1 = ((gS g ++ W) ++ [46]).length := by simp; omega
    rw [e, l, ov_mid h.hB]
    · unfold pB; rw [if_neg hB]; simp; omega
    · intro c' hc'
      rcases pE_head sg D with h2 | h2
      · rw [h2] at hc'; cases hc'
      · rw [h2] at hc'; injection hc' with e; exact isD_not (.inr (.inr (.inr e.symm)))
theorem LitT.at2 (h : LitT g W B sg D) : litT g W B sg D = (gS g ++ W ++ pB B) ++ pE sg D ∧ (gS g).length + W.length + (pB B).length = (gS g ++ W ++ pB B).length := by
  unfold litT
  exact ⟨by simp, by simp; omega⟩
theorem LitT.lhasE (h : LitT g W B sg D) : hasE (litT g W B sg D) = decide (D ≠ []) := by
  unfold Go.Proofs.YtnajondbdeclmaaGreatDoor.hasE
  rw [h.lp2, h.at2.2, h.at2.1, get_app0]
  by_cases hD : D = []
  · have e : (pE sg D).head? = none := by unfold pE; rw [if_pos hD]; rfl
    rw [e]; simp [hD]
  · have e : (pE sg D).head? = some 101 := by unfold pE; rw [if_neg hD]; rfl
    rw [e]; simp [hD]
theorem LitT.at3 (h : LitT g W B sg D) (hD : D ≠ []) : litT g W B sg D = (gS g ++ W ++ pB B ++ [101]) ++ (sg ++ D) ∧ p2 (litT g W B sg D) + 1 = (gS g ++ W ++ pB B ++ [101]).length := by
  rw [h.lp2, h.at2.2, h.at2.1]
  unfold pE
  rw [if_neg hD]
  exact ⟨by simp, by simp; omega⟩
theorem LitT.sg1 (h : LitT g W B sg D) (hD : D ≠ []) : (litT g W B sg D)[p2 (litT g W B sg D) + 1]? = (sg ++ D).head? := by
  rw [(h.at3 hD).2]
  conv => lhs; rw [(h.at3 hD).1]
  exact get_app0 _ _
theorem LitT.Dhead (h : LitT g W B sg D) (hD : D ≠ []) : ∃ c, D.head? = some c ∧ isD c = true := by
  cases hd : D with
  | nil => exact absurd hd hD
  | cons c l => exact ⟨c, rfl, h.hD c (by rw [hd]; exact List.mem_cons_self ..)⟩
theorem LitT.lsgn (h : LitT g W B sg D) (hD : D ≠ []) : sgn (litT g W B sg D) = decide (sg ≠ []) := by
  unfold Go.Proofs.YtnajondbdeclmaaGreatDoor.sgn
  rw [h.sg1 hD]
  rcases h.hs with e | e | e
  · subst e
    obtain ⟨c, hc, hd⟩ := h.Dhead hD
    have := isD_ne hd
    rw [List.nil_append, hc]
    simp [this.1, this.2.1]
  · subst e; rfl
  · subst e; rfl
theorem LitT.lp3 (h : LitT g W B sg D) (hD : D ≠ []) : p3 (litT g W B sg D) = (gS g ++ W ++ pB B ++ [101] ++ sg).length := by
  unfold Go.Proofs.YtnajondbdeclmaaGreatDoor.p3
  have h1 := (h.at3 hD).2
  rw [h.lsgn hD]
  rcases h.hs with e | e | e
  · subst e
    simp only [ne_eq, not_true_eq_false, decide_false, Bool.false_eq_true, if_false, List.append_nil]
    exact h1
  · subst e
    rw [if_pos (by simp), List.length_append]
    simp only [List.length_singleton]
    omega
  · subst e
    rw [if_pos (by simp), List.length_append]
    simp only [List.length_singleton]
    omega
theorem LitT.at4 (h : LitT g W B sg D) (hD : D ≠ []) : litT g W B sg D = (gS g ++ W ++ pB B ++ [101] ++ sg) ++ (D ++ []) := by
  rw [(h.at3 hD).1, List.append_nil]
  simp
theorem LitT.lp4 (h : LitT g W B sg D) : p4 (litT g W B sg D) = (litT g W B sg D).length := by
  unfold Go.Proofs.YtnajondbdeclmaaGreatDoor.p4
  rw [h.lhasE]
  by_cases hD : D = []
  · rw [if_neg (by simpa using hD), h.lp2, h.at2.2]
    conv => rhs; rw [h.at2.1]
    unfold pE
    rw [if_pos hD, List.append_nil]
  · rw [if_pos (by simpa using hD), h.lp3 hD]
    conv => lhs; rw [h.at4 hD]
    rw [ov_mid h.hD (fun c hc => by cases hc), h.at4 hD]
    simp
    omega
theorem LitT.parse (h : LitT g W B sg D) : wrongP (litT g W B sg D) = none ∧
    bareP (litT g W B sg D) = stripD (g, W ++ B, (if sg = [45] ∧ D ≠ [] then -(capE D : Int) else (capE D : Int)) - B.length) := by
  have hw : wholeP (litT g W B sg D) = W := by
    unfold wholeP
    rw [h.lp0, h.lp1]
    exact cut_mid _ _ _
  have hb : behindP (litT g W B sg D) = B := by
    unfold behindP
    rw [h.lpt]
    by_cases hB : B = []
    · rw [hB]; rfl
    · rw [if_pos (by simpa using hB), h.lp1, h.lp2, h.at1]
      have e : (gS g ++ W) ++ (pB B ++ pE sg D) = ((gS g ++ W) ++ [46]) ++ (B ++ pE sg D) := by
        unfold pB; rw [if_neg hB]; simp
      have l : (gS g).length + W.length + 1 = ((gS g ++ W) ++ [46]).length := by simp; omega
      have l2 : (gS g).length + W.length + (pB B).length = ((gS g ++ W) ++ [46]).length + B.length := by unfold pB; rw [if_neg hB]; simp; omega
      rw [e, l, l2]
      exact cut_mid _ _ _
  have he : expP (litT g W B sg D) = D := by
    unfold expP
    rw [h.lhasE]
    by_cases hD : D = []
    · rw [hD]; rfl
    · rw [if_pos (by simpa using hD), h.lp3 hD, h.lp4, h.at4 hD]
      have l : ((gS g ++ W ++ pB B ++ [101] ++ sg) ++ (D ++ [])).length = (gS g ++ W ++ pB B ++ [101] ++ sg).length + D.length := by simp; omega
      rw [l]
      exact cut_mid _ _ _
  have hu : underP (litT g W B sg D) = decide (sg = [45] ∧ D ≠ []) := by
    unfold underP
    rw [h.lhasE]
    by_cases hD : D = []
    · simp [hD]
    · rw [h.sg1 hD]
      rcases h.hs with e | e | e
      · subst e
        obtain ⟨c, hc, hd⟩ := h.Dhead hD
        have := isD_ne hd
        rw [List.nil_append, hc]
        simp [this.2.1]
      · subst e; simp
      · subst e; simp [hD]
  refine ⟨?_, ?_⟩
  · unfold wrongP
    have d1 : dAt (litT g W B sg D) (Go.Proofs.YtnajondbdeclmaaGreatDoor.p0 (litT g W B sg D)) = true := by
      rw [h.lp0]; unfold litT; exact dAt_mid0 h.hW h.W0
    rw [if_neg (by rw [d1]; simp), if_neg, if_neg, if_neg (by rw [h.lp4]; omega)]
    · rintro ⟨h1, h2⟩
      rw [h.lhasE, decide_eq_true_eq] at h1
      rw [h.lp3 h1, h.at4 h1, dAt_mid0 h.hD h1] at h2
      cases h2
    · rintro ⟨h1, h2⟩
      rw [h.lpt, decide_eq_true_eq] at h1
      have e : (gS g ++ W) ++ (pB B ++ pE sg D) = ((gS g ++ W) ++ [46]) ++ (B ++ pE sg D) := by
        unfold pB; rw [if_neg h1]; simp
      have l : (gS g).length + W.length + 1 = ((gS g ++ W) ++ [46]).length := by simp; omega
      rw [h.lp1, h.at1, e, l, dAt_mid0 h.hB h1] at h2
      cases h2
  · unfold bareP
    rw [h.lneg, hw, hb, he, hu]
    by_cases hc : sg = [45] ∧ D ≠ []
    · rw [if_pos (by simpa using hc), if_pos hc]
    · rw [if_neg (by simpa using hc), if_neg hc]
end

/-- The number that a numeral says. -/
theorem decD_digit (u : Nat) : ∀ c ∈ Lib.decDigits u, isD c = true := by
  induction u using Nat.strongRecOn with
  | _ u ih =>
    intro c hc
    by_cases h : u < 10
    · rw [Lib.decDigits, dif_pos h] at hc
      rw [List.mem_singleton.1 hc]
      have : ∀ k : Fin 10, isD (UInt8.ofNat (48 + k.val)) = true := by decide
      exact this ⟨u, h⟩
    · rw [Lib.decDigits, dif_neg h] at hc
      rcases List.mem_append.1 hc with h1 | h1
      · exact ih (u / 10) (by omega) c h1
      · rw [List.mem_singleton.1 h1]
        have : ∀ k : Fin 10, isD (UInt8.ofNat (48 + k.val)) = true := by decide
        exact this ⟨u % 10, by omega⟩
theorem decD_ne (u : Nat) : Lib.decDigits u ≠ [] := by
  intro h
  have h1 := congrArg List.length h
  rw [Lib.decDigits_length, List.length_nil] at h1
  have := Lib.nDigits_pos u
  omega
theorem capE_snoc (l : List UInt8) (c : UInt8) : capE (l ++ [c]) = if capE l < farE then 10 * capE l + (c.toNat - 48) else capE l := by unfold capE; rw [List.foldl_append]; rfl
theorem capE_dec (u : Nat) (h : u < farE) : capE (Lib.decDigits u) = u := by
  induction u using Nat.strongRecOn with
  | _ u ih =>
    by_cases h1 : u < 10
    · rw [Lib.decDigits, dif_pos h1]
      have : ∀ k : Fin 10, capE [UInt8.ofNat (48 + k.val)] = k.val := by decide
      exact this ⟨u, h1⟩
    · rw [Lib.decDigits, dif_neg h1, capE_snoc, ih (u / 10) (by omega) (by omega), if_pos (by omega)]
      have : ∀ k : Fin 10, (UInt8.ofNat (48 + k.val)).toNat - 48 = k.val := by decide
      have h2 := this ⟨u % 10, by omega⟩
      simp only at h2
      rw [h2]
      omega
/-- The exponent's part of a text. -/
def itoaS (n : Int) : List UInt8 := if n < 0 then [45] else []
def itoaD (n : Int) : List UInt8 := if n < 0 then Lib.decDigits n.natAbs else Lib.decDigits n.toNat
theorem itoa_parts (n : Int) : Lib.itoa n = itoaS n ++ itoaD n := by
  unfold Lib.itoa itoaS itoaD
  split <;> rfl
theorem itoaD_digits (n : Int) : ∀ c ∈ itoaD n, isD c = true := by unfold itoaD; split <;> exact decD_digit _
theorem itoaD_ne (n : Int) : itoaD n ≠ [] := by unfold itoaD; split <;> exact decD_ne _
theorem itoaS_or (n : Int) : itoaS n = [] ∨ itoaS n = [43] ∨ itoaS n = [45] := by unfold itoaS; split <;> simp
theorem itoa_val (n : Int) (h1 : -(farE : Int) < n) (h2 : n < farE) : (if itoaS n = [45] ∧ itoaD n ≠ [] then -(capE (itoaD n) : Int) else (capE (itoaD n) : Int)) = n := by
  by_cases h : n < 0
  · have e1 : itoaS n = [45] := if_pos h
    have e2 : itoaD n = Lib.decDigits n.natAbs := if_pos h
    rw [if_pos ⟨e1, itoaD_ne n⟩, e2, capE_dec _ (by omega)]
    omega
  · have e1 : itoaS n = [] := if_neg h
    have e2 : itoaD n = Lib.decDigits n.toNat := if_neg h
    rw [if_neg (by rw [e1]; simp), e2, capE_dec _ (by omega)]
    omega
end Go.Proofs.YtnajondbdeclmaaGreatDoor
