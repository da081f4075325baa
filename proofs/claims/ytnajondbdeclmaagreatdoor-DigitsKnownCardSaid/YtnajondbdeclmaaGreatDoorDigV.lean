/- Plain: rows of digits of unlike floats are unlike; what is written of a float denotes its shortest digits. Plain: the shortest digits of a known float, by two steps of reckoning. Plain: what is written of a float, as a literal: it denotes the shortest digits; whole numbers. -/
import Derived.Test.YtnajondbdeclmaaGreatDoorDigT
import Derived.Test.YtnajondbdeclmaaGreatDoorDigI
namespace Go.Proofs.YtnajondbdeclmaaGreatDoor
set_option linter.unusedSimpArgs false
set_option linter.unusedVariables false

/-- A row of digits with its exponent, as a decimal. -/
def rowD (r : List UInt8 × Int) : Dm := (false, r.1, r.2 - r.1.length)
theorem row_val (x : Nat) : valX (rowD (rowN x)) = x ∧ -(unitE : Int) ≤ (rowD (rowN x)).2.2 ∧ (rowD (rowN x)).2.2 + (unitE : Int) ≤ lenD x := by
  obtain ⟨k, hk⟩ := noughtsR_spec (dtext x)
  have hv := dtext_val x
  have hl := congrArg List.length hk
  rw [List.length_append, List.length_replicate] at hl
  have hu : unitE = 1075 := rfl
  have e : ((rowN x).2 - ((rowN x).1.length : Int)) + (unitE : Int) = (k : Int) := by
    unfold rowN
    simp only
    rw [hl, hu]
    omega
  refine ⟨?_, ?_, ?_⟩
  · unfold valX rowD
    simp only
    rw [e, Int.toNat_natCast]
    conv => rhs; rw [← hv, hk, dval_append, dval_zeros, List.length_replicate, Nat.add_zero]
    rfl
  · unfold rowD; simp only; omega
  · unfold rowD
    simp only
    rw [e]
    show (k : Int) ≤ ((dtext x).length : Nat)
    omega
theorem row_lead {x : Nat} (h : 0 < x) : (∀ c ∈ (rowN x).1, isD c = true) ∧ (rowN x).1 ≠ [] ∧ (rowN x).1.head? ≠ some 48 ∧ (rowN x).1.getLast? ≠ some 48 := by
  have hne : (rowN x).1 ≠ [] := by
    intro h0
    have := (row_val x).1
    rw [val_zero (show (rowD (rowN x)).2.1 = [] from h0)] at this
    omega
  refine ⟨fun c hc => dtext_digits x c (noughtsR_mem hc), hne, ?_, noughtsR_last _⟩
  unfold rowN at hne ⊢
  rw [noughtsR_head hne]
  exact dtext_head h
theorem row_bare {x : Nat} (h : 0 < x) : Bare (rowD (rowN x)) :=
  ⟨(row_lead h).1, fun h0 => absurd h0 (row_lead h).2.1, (row_lead h).2.2.1, (row_lead h).2.2.2⟩
theorem from_pos {b : Nat} (h : 0 < b) : 0 < fromN b := by
  unfold fromN
  rw [if_neg (by omega)]
  have := Fl_lt (a := 0) (b := b)
  rw [Fl_zero] at this
  exact Nat.mul_pos (by have := this.2 h; omega) U5_pos
theorem short_pos {b : Nat} (h : 0 < b) : 0 < shortN b := by
  have := insD_iff.1 (short_spec h).1
  have := from_pos h
  have := from_lt_to b
  omega
theorem from_lt {a b : Nat} (h : a < b) : fromN a < fromN b := by
  rw [show b = (b - 1) + 1 by omega, ← to_next]
  by_cases e : a = b - 1
  · rw [← e]; exact from_lt_to a
  · have h1 : a < b - 1 := by omega
    have h2 : fromN a ≤ sz a := by
      rcases Nat.eq_zero_or_pos a with h0 | h0
      · subst h0; exact Nat.zero_le _
      · exact Nat.le_of_lt (sz_in h0).1
    have h3 := sz_mono h1
    have h4 := (sz_in (b := b - 1) (by omega)).2
    omega
theorem insD_unlike {a b X : Nat} (h : a < b) (h1 : insD a X = true) (h2 : insD b X = true) : False := by
  rw [insD_iff] at h1 h2
  have e := to_next a
  have l1 := from_lt_to a
  have l2 := from_lt_to b
  by_cases hb : b = a + 1
  · subst hb
    rw [← e] at h2 l2
    omega
  · have := from_lt (show a + 1 < b by omega)
    omega
theorem insD_one {a b X : Nat} (h1 : insD a X = true) (h2 : insD b X = true) : a = b := by
  rcases Nat.lt_trichotomy a b with h | h | h
  · exact (insD_unlike h h1 h2).elim
  · exact h
  · exact (insD_unlike h h2 h1).elim
/-- Floats of unlike sizes have unlike rows. -/
theorem short_unlike (a b : Nat) : (shortR a = shortR b) ↔ a = b := by
  refine ⟨fun h => ?_, fun h => by rw [h]⟩
  unfold shortR at h
  have nz : ∀ {c : Nat}, 0 < c → rowN (shortN c) ≠ ([48], 1) := by
    intro c hc he
    have := (row_lead (short_pos hc)).2.2.2
    rw [he] at this
    exact this rfl
  by_cases ha : a = 0
  · by_cases hb : b = 0
    · omega
    · rw [if_pos ha, if_neg hb] at h
      exact absurd h.symm (nz (by omega))
  · by_cases hb : b = 0
    · rw [if_neg ha, if_pos hb] at h
      exact absurd h (nz (by omega))
    · rw [if_neg ha, if_neg hb] at h
      have e : shortN a = shortN b := by rw [← (row_val (shortN a)).1, h, (row_val (shortN b)).1]
      have h1 := (short_spec (b := a) (by omega)).1
      have h2 := (short_spec (b := b) (by omega)).1
      rw [e] at h1
      exact insD_one h1 h2
theorem row_digits {x v k j : Nat} (hx : x = v * 10 ^ j) (hv : v ≤ 10 ^ k) (h0 : 0 < x) : (rowN x).1.length ≤ k ∨ (rowN x).1.length = 1 := by
  have hb := row_bare h0
  have hr := (row_val x).1
  rcases Nat.lt_or_ge v (10 ^ k) with h | h
  · left
    exact bare_len hb (hr.trans hx) h
  · right
    have e : v = 10 ^ k := by omega
    have h1 : (rowN x).1.length ≤ 1 := bare_len (N := 1) (e := k + j) (n := 1) hb (by rw [hr, hx, e, ← Nat.pow_add, Nat.one_mul]) (by decide)
    have h2 := List.length_pos_iff.2 (row_lead h0).2.1
    omega
theorem short_17 {b : Nat} (h : 0 < b) : (shortR b).1.length ≤ 17 := by
  obtain ⟨k, v, h1, h2, h3, h4, h5, _⟩ := short_digits h
  unfold shortR
  rw [if_neg (by omega)]
  rcases row_digits h5 h4 (short_pos h) with h6 | h6 <;> omega
end Go.Proofs.YtnajondbdeclmaaGreatDoor

namespace Go.Proofs.YtnajondbdeclmaaGreatDoor
set_option linter.unusedSimpArgs false
set_option linter.unusedVariables false

theorem pick_none_down {b i k : Nat} (h0 : 0 < b) (hi : 1 ≤ i) (hik : i ≤ k) (hk : k < lenD (sz b)) (h : pickG (insD b) (sz b) (lenD (sz b)) k = none) : pickG (insD b) (sz b) (lenD (sz b)) i = none := by
  cases hp : pickG (insD b) (sz b) (lenD (sz b)) i with
  | none => rfl
  | some x =>
    exfalso
    obtain ⟨h1, h2⟩ := pickG_some hp
    obtain ⟨k1, k2⟩ := pickG_none h
    have hS := sz_pos h0
    have hs := insD_sz h0
    have hlt := lenD_lt (sz b)
    have hdiv : sz b / 10 ^ (lenD (sz b) - i) < 10 ^ i := by
      rw [Nat.div_lt_iff_lt_mul (Nat.pow_pos (by decide)), ← Nat.pow_add, show i + (lenD (sz b) - i) = lenD (sz b) by omega]
      exact hlt
    have key : ∀ v, x = v * 10 ^ (lenD (sz b) - i) → v < 10 ^ k → False := by
      intro v hv hvk
      obtain ⟨m1, m2⟩ := not_between hS hv hvk (by omega) (by omega)
      rcases Nat.lt_or_ge (sz b) x with c | c
      · have l2 := high_gt (S := sz b) (p := 10 ^ (lenD (sz b) - k)) (Nat.pow_pos (by decide))
        rw [insD_mid hs h1 (Nat.le_of_lt l2) (m2 c)] at k2; cases k2
      · have l1 := low_le (sz b) (10 ^ (lenD (sz b) - k))
        rw [insD_mid h1 hs (m1 c) l1] at k1; cases k1
    have hpw : 10 ^ i ≤ 10 ^ k := Nat.pow_le_pow_right (by decide) hik
    rcases h2 with h2 | h2
    · exact key _ h2 (by omega)
    · have h3 : x = (sz b / 10 ^ (lenD (sz b) - i) + 1) * 10 ^ (lenD (sz b) - i) := by rw [h2, Nat.add_mul, Nat.one_mul]; rfl
      rcases Nat.lt_or_ge (sz b / 10 ^ (lenD (sz b) - i) + 1) (10 ^ k) with c | c
      · exact key _ h3 c
      · have e : i = k := by
          rcases Nat.lt_or_ge i k with c2 | c2
          · have := Nat.pow_lt_pow_right (show 1 < 10 by decide) c2
            omega
          · omega
        rw [e] at hp
        rw [h] at hp
        cases hp
theorem firstG_at {pick : Nat → Option Nat} {S f k j x : Nat} (hk : k ≤ j) (hj : j < k + f) (hp : pick j = some x) (hn : ∀ i, k ≤ i → i < j → pick i = none) : firstG pick S f k = x := by
  induction f generalizing k with
  | zero => omega
  | succ f ih =>
    rw [firstG_succ]
    by_cases h : k = j
    · subst h
      rw [hp]
    · rw [hn k (Nat.le_refl _) (by omega)]
      exact ih (by omega) (by omega) (fun i a b => hn i (by omega) b)
/-- The shortest digits, known by two steps: at so many digits there is a neighbour, at one less there is none. -/
theorem short_at {b k X L : Nat} (h0 : 0 < b) (hL : lenD (sz b) = L) (hk : 1 ≤ k) (hkL : k < L) (hp : pickG (insD b) (sz b) L k = some X) (hn : k = 1 ∨ pickG (insD b) (sz b) L (k - 1) = none) : shortN b = X := by
  unfold shortN seekG
  rw [hL]
  refine firstG_at hk (by omega) hp (fun i h1 h2 => ?_)
  rcases hn with h | h
  · omega
  · subst hL
    exact pick_none_down h0 h1 (by omega) (by omega) h
theorem dtext_mul {v : Nat} (hv : 0 < v) (j : Nat) : dtext (v * 10 ^ j) = dtext v ++ List.replicate j 48 := by
  have h : dval (dtext v ++ List.replicate j 48) = v * 10 ^ j := by rw [dval_append, dval_zeros, dtext_val, List.length_replicate, Nat.add_zero]
  rw [← h]
  refine dtext_canon (fun c hc => ?_) (by simp [dtext_ne]) (.inl ?_)
  · rcases List.mem_append.1 hc with h1 | h1
    · exact dtext_digits v c h1
    · rw [List.eq_of_mem_replicate h1]; rfl
  · have := dtext_head hv
    cases hd : dtext v with
    | nil => exact absurd hd (dtext_ne v)
    | cons c l =>
      rw [hd] at this
      intro h2
      apply this
      have h3 : c = 48 := h2
      rw [h3]; rfl
theorem noughtsR_app (l : List UInt8) (j : Nat) : noughtsR (l ++ List.replicate j 48) = noughtsR l := by
  unfold noughtsR
  rw [List.reverse_append, List.reverse_replicate]
  congr 1
  induction j with
  | zero => rfl
  | succ j ih => rw [List.replicate_succ, List.cons_append, List.dropWhile_cons, if_pos (by rfl)]; exact ih
theorem rowN_mul {v : Nat} (hv : 0 < v) (j : Nat) : rowN (v * 10 ^ j) = (noughtsR (dtext v), ((lenD v + j : Nat) : Int) - 1075) := by
  unfold rowN
  rw [dtext_mul hv, noughtsR_app, List.length_append, List.length_replicate]
  rfl
/-- The row of a known float: its digits, its exponent. -/
theorem row_at {b k X L v j : Nat} {l : List UInt8} {n : Int} (h0 : 0 < b) (hS1 : 10 ^ (L - 1) ≤ sz b) (hS2 : sz b < 10 ^ L) (hk : 1 ≤ k) (hkL : k < L) (hp : pickG (insD b) (sz b) L k = some X) (hn : k = 1 ∨ pickG (insD b) (sz b) L (k - 1) = none)
    (hX : X = v * 10 ^ j) (hl : dtext (dval l) = l) (hv : v = dval l) (hv0 : 0 < v) (hd : noughtsR l = l) (hx : ((l.length + j : Nat) : Int) - 1075 = n) : shortR b = (l, n) := by
  have hL : lenD (sz b) = L := by
    have h := lenD_of hS1 (by rw [show L - 1 + 1 = L by omega]; exact hS2)
    omega
  unfold shortR
  rw [if_neg (by omega), short_at h0 hL hk hkL hp hn, hX, rowN_mul hv0]
  unfold lenD
  rw [hv, hl, hd, hx]
end Go.Proofs.YtnajondbdeclmaaGreatDoor

namespace Go.Proofs.YtnajondbdeclmaaGreatDoor
set_option linter.unusedSimpArgs false
set_option linter.unusedVariables false

theorem isD_rep {k : Nat} {c : UInt8} (h : c ∈ List.replicate k (48 : UInt8)) : isD c = true := by rw [List.eq_of_mem_replicate h]; rfl
theorem capE_nil : capE [] = 0 := rfl
theorem textR_parse (g : Bool) (d : List UInt8) (n : Int) (hd : ∀ c ∈ d, isD c = true) (h0 : d ≠ []) (hh : d.head? ≠ some 48) (h1 : -100000 ≤ n) (h2 : n ≤ 100000) (hx : -(unitE : Int) ≤ n - d.length) :
    wrongP (textR g d n) = none ∧ ∃ e : Dm, bareP (textR g d n) = stripD e ∧ e.1 = g ∧ valX e = valX (rowD (d, n)) ∧ -(unitE : Int) ≤ e.2.2 := by
  have hlen : 0 < d.length := List.length_pos_iff.2 h0
  have hu : unitE = 1075 := rfl
  have hfar : (farE : Int) = 35184372088832 := rfl
  unfold textR
  by_cases c1 : (d.length : Int) ≤ n ∧ n ≤ 21
  · rw [if_pos c1]
    have hL : LitT g (d ++ List.replicate (n - d.length).toNat 48) [] [] [] := by
      refine ⟨fun c hc => ?_, by simp [h0], .inr ?_, fun c hc => by simp at hc, fun c hc => by simp at hc, .inl rfl⟩
      · rcases List.mem_append.1 hc with h | h
        · exact hd c h
        · exact isD_rep h
      · rw [List.head?_append]
        cases hq : d.head? with
        | none => exact absurd (List.head?_eq_none_iff.1 hq) h0
        | some c => rw [hq] at hh; exact hh
    obtain ⟨p1, p2⟩ := hL.parse
    have e : gS g ++ (d ++ List.replicate (n - d.length).toNat 48) = litT g (d ++ List.replicate (n - d.length).toNat 48) [] [] [] := by unfold litT pB pE; simp
    rw [e]
    refine ⟨p1, _, p2, rfl, ?_, ?_⟩
    · unfold valX rowD
      simp only [List.append_nil, capE_nil]
      rw [dval_append, dval_zeros, List.length_replicate, Nat.add_zero, Nat.mul_assoc, ← Nat.pow_add]
      congr 2
      simp
      omega
    · simp [capE_nil]
  · rw [if_neg c1]
    by_cases c2 : 0 < n ∧ n ≤ 21
    · rw [if_pos c2]
      have hn : n.toNat < d.length := by omega
      have hL : LitT g (d.take n.toNat) (d.drop n.toNat) [] [] := by
        refine ⟨fun c hc => hd c (List.mem_of_mem_take hc), ?_, .inr ?_, fun c hc => hd c (List.mem_of_mem_drop hc), fun c hc => by simp at hc, .inl rfl⟩
        · intro h
          have := congrArg List.length h
          rw [List.length_take, List.length_nil] at this
          omega
        · rw [List.head?_take, if_neg (by omega)]; exact hh
      obtain ⟨p1, p2⟩ := hL.parse
      have hdr : d.drop n.toNat ≠ [] := by
        intro h
        have := congrArg List.length h
        rw [List.length_drop, List.length_nil] at this
        omega
      have e : gS g ++ ((d.take n.toNat ++ [46]) ++ d.drop n.toNat) = litT g (d.take n.toNat) (d.drop n.toNat) [] [] := by unfold litT pB pE; rw [if_neg hdr]; simp
      rw [e]
      refine ⟨p1, _, p2, rfl, ?_, ?_⟩
      · unfold valX rowD
        simp only [List.take_append_drop, capE_nil]
        congr 2
        simp
        omega
      · simp [capE_nil]; omega
    · rw [if_neg c2]
      by_cases c3 : -6 < n ∧ n ≤ 0
      · rw [if_pos c3]
        have hL : LitT g [48] (List.replicate (-n).toNat 48 ++ d) [] [] := by
          refine ⟨fun c hc => by rw [List.mem_singleton.1 hc]; rfl, by simp, .inl rfl, fun c hc => ?_, fun c hc => by simp at hc, .inl rfl⟩
          rcases List.mem_append.1 hc with h | h
          · exact isD_rep h
          · exact hd c h
        obtain ⟨p1, p2⟩ := hL.parse
        have e : gS g ++ (([48, 46] ++ List.replicate (-n).toNat 48) ++ d) = litT g [48] (List.replicate (-n).toNat 48 ++ d) [] [] := by unfold litT pB pE; rw [if_neg (by simp [h0])]; simp
        rw [e]
        refine ⟨p1, _, p2, rfl, ?_, ?_⟩
        · unfold valX rowD
          simp only [capE_nil]
          have : dval ([48] ++ (List.replicate (-n).toNat 48 ++ d)) = dval d := by
            rw [← List.append_assoc, show [48] ++ List.replicate (-n).toNat (48 : UInt8) = List.replicate ((-n).toNat + 1) 48 from by rw [List.replicate_succ]; rfl, dval_append, dval_zeros, Nat.zero_mul, Nat.zero_add]
          rw [this]
          congr 2
          simp
          omega
        · simp [capE_nil]; omega
      · rw [if_neg c3]
        obtain ⟨sg, hsg, hse, hval⟩ : ∃ sg, (sg = [] ∨ sg = [43] ∨ sg = [45]) ∧ ((if 0 < n then ([101, 43] : List UInt8) else [101]) ++ Lib.itoa (n - 1) = 101 :: (sg ++ itoaD (n - 1))) ∧ (if sg = [45] ∧ itoaD (n - 1) ≠ [] then -(capE (itoaD (n - 1)) : Int) else (capE (itoaD (n - 1)) : Int)) = n - 1 := by
          have hv := itoa_val (n - 1) (by omega) (by omega)
          by_cases hn : 0 < n
          · have hs : itoaS (n - 1) = [] := by unfold itoaS; rw [if_neg (by omega)]
            rw [hs] at hv
            refine ⟨[43], .inr (.inl rfl), ?_, ?_⟩
            · rw [if_pos hn, itoa_parts, hs]; rfl
            · rw [if_neg (by simp)] at hv ⊢
              exact hv
          · refine ⟨itoaS (n - 1), itoaS_or _, ?_, hv⟩
            rw [if_neg hn, itoa_parts]; rfl
        have hL : LitT g (d.take 1) (d.drop 1) sg (itoaD (n - 1)) := by
          refine ⟨fun c hc => hd c (List.mem_of_mem_take hc), ?_, .inr ?_, fun c hc => hd c (List.mem_of_mem_drop hc), itoaD_digits _, hsg⟩
          · intro h
            have := congrArg List.length h
            rw [List.length_take, List.length_nil] at this
            omega
          · rw [List.head?_take, if_neg (by omega)]; exact hh
        obtain ⟨p1, p2⟩ := hL.parse
        have hb : (if 1 < d.length then 46 :: d.drop 1 else []) = pB (d.drop 1) := by
          unfold pB
          by_cases hc : 1 < d.length
          · rw [if_pos hc, if_neg]
            intro h
            have := congrArg List.length h
            rw [List.length_drop, List.length_nil] at this
            omega
          · rw [if_neg hc, if_pos (List.drop_eq_nil_of_le (by omega))]
        have e : gS g ++ (((d.take 1 ++ (if 1 < d.length then 46 :: d.drop 1 else [])) ++ (if 0 < n then [101, 43] else [101])) ++ Lib.itoa (n - 1)) = litT g (d.take 1) (d.drop 1) sg (itoaD (n - 1)) := by
          unfold litT pE
          rw [if_neg (itoaD_ne _), hb, List.append_assoc (d.take 1 ++ pB (d.drop 1)), hse]
          simp
        rw [e]
        refine ⟨p1, _, p2, rfl, ?_, ?_⟩
        · rw [hval]
          unfold valX rowD
          simp only [List.take_append_drop]
          congr 2
          rw [List.length_drop]
          omega
        · rw [hval]
          show -(unitE : Int) ≤ n - 1 - ((d.drop 1).length : Int)
          rw [List.length_drop]
          omega
theorem textR_len (g : Bool) (d : List UInt8) (n : Int) (h1 : -100000 ≤ n) (h2 : n ≤ 100000) : (textR g d n).length ≤ d.length + 60 := by
  have hi := itoa_len21 (n - 1) (by omega) (by omega)
  have hg : (gS g).length ≤ 1 := by unfold gS; split <;> simp
  unfold textR
  rw [List.length_append]
  split
  · rw [List.length_append, List.length_replicate]; omega
  · split
    · simp; omega
    · split
      · simp; omega
      · rw [List.length_append, List.length_append, List.length_append]
        have a1 : (d.take 1).length ≤ 1 := List.length_take_le _ _
        have a2 : (if 1 < d.length then 46 :: d.drop 1 else []).length ≤ d.length + 1 := by split <;> simp
        have a3 : (if 0 < n then ([101, 43] : List UInt8) else [101]).length ≤ 2 := by split <;> simp
        omega
/-- A whole number below two to the power 53, as it is written. -/
theorem whole_val {b : Nat} (h : isWhole b = true) : wholeF b * 10 ^ unitE = sz b := by
  obtain ⟨n, hn⟩ : ∃ n, n = 1074 := ⟨_, rfl⟩
  have h2 := (of_decide_eq_true h).2
  unfold wholeF sz
  rw [← hn] at h2 ⊢
  rw [ten_unit n hn]
  have h3 := Nat.div_add_mod (Fl b) (2 ^ n)
  rw [h2, Nat.add_zero] at h3
  conv => rhs; rw [← h3]
  generalize U5 = U
  generalize 2 ^ n = p
  ac_rfl
theorem decD_head {u : Nat} (h : 0 < u) : (Lib.decDigits u).head? ≠ some 48 := by
  induction u using Nat.strongRecOn with
  | _ u ih =>
    by_cases h1 : u < 10
    · rw [Lib.decDigits, dif_pos h1]
      have : ∀ k : Fin 10, 0 < k.val → UInt8.ofNat (48 + k.val) ≠ 48 := by decide
      intro e
      injection e with e
      exact this ⟨u, h1⟩ h e
    · rw [Lib.decDigits, dif_neg h1, List.head?_append]
      have := ih (u / 10) (by omega) (by omega)
      cases hq : (Lib.decDigits (u / 10)).head? with
      | none => exact absurd (List.head?_eq_none_iff.1 hq) (decD_ne _)
      | some c => rw [hq] at this; exact this
theorem decD_val (u : Nat) : dval (Lib.decDigits u) = u := by
  induction u using Nat.strongRecOn with
  | _ u ih =>
    by_cases h1 : u < 10
    · rw [Lib.decDigits, dif_pos h1]
      have : ∀ k : Fin 10, dval [UInt8.ofNat (48 + k.val)] = k.val := by decide
      exact this ⟨u, h1⟩
    · rw [Lib.decDigits, dif_neg h1, dval_snoc, ih (u / 10) (by omega)]
      have : ∀ k : Fin 10, (UInt8.ofNat (48 + k.val)).toNat - 48 = k.val := by decide
      have h2 := this ⟨u % 10, by omega⟩
      simp only at h2
      rw [h2]
      omega
theorem whole_parse (n : Nat) (hw : isWhole (n % 9223372036854775808) = true) (h0 : n % 9223372036854775808 ≠ 0) (hn : n < 18446744073709551616) :
    wrongP (Lib.itoa (wholeI n)) = none ∧ ∃ e : Dm, bareP (Lib.itoa (wholeI n)) = stripD e ∧ e.1 = decide (9223372036854775808 ≤ n) ∧ valX e = sz (n % 9223372036854775808) ∧ -(unitE : Int) ≤ e.2.2 := by
  have hv := whole_val hw
  have hp : 0 < wholeF (n % 9223372036854775808) := by
    rcases Nat.eq_zero_or_pos (wholeF (n % 9223372036854775808)) with h | h
    · rw [h, Nat.zero_mul] at hv
      have := sz_pos (b := n % 9223372036854775808) (by omega)
      omega
    · exact h
  unfold wholeI
  generalize wholeF (n % 9223372036854775808) = u at *
  have hL : ∀ g, LitT g (Lib.decDigits u) [] [] [] := fun g => ⟨decD_digit _, decD_ne _, .inr (decD_head hp), fun c hc => by simp at hc, fun c hc => by simp at hc, .inl rfl⟩
  have he : Lib.itoa (if n < 9223372036854775808 then (u : Int) else -(u : Int)) = litT (decide (9223372036854775808 ≤ n)) (Lib.decDigits u) [] [] [] := by
    unfold Lib.itoa litT pB pE gS
    by_cases hs : n < 9223372036854775808
    · rw [if_pos hs, if_neg (by omega), if_neg (by simp; omega)]
      simp
    · rw [if_neg hs, if_pos (by omega), if_pos (by simp; omega)]
      simp
  rw [he]
  obtain ⟨p1, p2⟩ := (hL (decide (9223372036854775808 ≤ n))).parse
  refine ⟨p1, _, p2, rfl, ?_, ?_⟩
  · unfold valX
    simp only [List.append_nil, capE_nil, decD_val]
    rw [← hv]
    congr 2
  · simp [capE_nil]
end Go.Proofs.YtnajondbdeclmaaGreatDoor
