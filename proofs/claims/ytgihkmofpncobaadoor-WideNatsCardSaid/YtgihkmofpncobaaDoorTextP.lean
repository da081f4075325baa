/- Plain: a number's decimal digits, eighteen at a time; what digits say. No program in sight. -/
import Derived.Test.YtgihkmofpncobaaDoorFig
namespace Go.Proofs.YtgihkmofpncobaaDoor

/-- One word more of a long division by D. -/
theorem divs_step {W D : Nat} {orig new : List Nat} {i left q r : Nat} (hi : i < orig.length) (hl : new.length = orig.length)
    (h : fval W (orig.drop (i + 1)) = D * fval W (new.drop (i + 1)) + left) (hd : left * W + orig.getD i 0 = D * q + r) :
    fval W (orig.drop i) = D * fval W ((new.set i q).drop i) + r := by
  have e1 : orig.drop i = orig.getD i 0 :: orig.drop (i + 1) := by
    rw [List.drop_eq_getElem_cons hi]; simp [List.getD, hi]
  have e2 : (new.set i q).drop i = q :: new.drop (i + 1) := by
    rw [List.drop_eq_getElem_cons (by simp; omega), List.drop_set_of_lt (by omega)]
    simp
  rw [e1, e2, fval_cons, fval_cons, h, Nat.mul_add D, Nat.mul_add W]
  have h1 : D * (W * fval W (new.drop (i + 1))) = W * (D * fval W (new.drop (i + 1))) := Nat.mul_left_comm _ _ _
  rw [h1, Nat.mul_comm W left]
  omega

/-- What is known while digits are told: of X, the digits acc, what is left of the eighteen in hand, and the rest. -/
structure Tell (X : Nat) (acc : List Nat) (i left xq : Nat) : Prop where
  figs : Figs 10 acc
  hi : i ≤ 18
  eq : X = fval 10 acc + 10 ^ acc.length * (left + 10 ^ (18 - i) * xq)
  lt : left < 10 ^ (18 - i)
  top : 0 < xq ∨ 0 < left ∨ Tops acc
theorem tops_snoc {acc : List Nat} {d : Nat} (hd : d ≠ 0) : Tops (acc ++ [d]) := by
  intro i hi
  simp at hi
  subst hi
  simpa [List.getD] using hd
theorem Tell.step {X : Nat} {acc : List Nat} {i left xq : Nat} (h : Tell X acc i left xq) (hi : i < 18) (hg : 0 < xq ∨ 0 < left) : Tell X (acc ++ [left % 10]) (i + 1) (left / 10) xq := by
  refine ⟨h.figs.snoc (Nat.mod_lt _ (by omega)), by omega, ?_, ?_, ?_⟩
  · rw [fval_snoc, h.eq, List.length_append, List.length_singleton, Nat.pow_succ, Nat.mul_assoc, Nat.mul_add 10, ← Nat.mul_assoc 10 (10 ^ _), ← Nat.pow_succ', show (18 - (i + 1)).succ = 18 - i by omega]
    rw [Nat.add_assoc, ← Nat.mul_add, ← Nat.add_assoc, Nat.mod_add_div]
  · have := h.lt
    rw [show 18 - i = (18 - (i + 1)) + 1 by omega, Nat.pow_succ] at this
    omega
  · by_cases h1 : 0 < xq
    · exact .inl h1
    · by_cases h2 : 0 < left / 10
      · exact .inr (.inl h2)
      · exact .inr (.inr (tops_snoc (by omega)))
theorem Tell.size {X : Nat} {acc : List Nat} {i left xq : Nat} (h : Tell X acc i left xq) (hg : 0 < xq ∨ 0 < left) : 10 ^ acc.length ≤ X := by
  rw [h.eq]
  have : 1 ≤ left + 10 ^ (18 - i) * xq := by
    rcases hg with h1 | h1
    · have := Nat.mul_le_mul (Nat.one_le_two_pow (n := 0)) h1
      have h2 : 1 * 1 ≤ 10 ^ (18 - i) * xq := Nat.mul_le_mul (Nat.pow_pos (by omega)) h1
      omega
    · omega
  have := Nat.mul_le_mul_left (10 ^ acc.length) this
  omega
theorem Tell.done {X : Nat} {acc : List Nat} {i left xq : Nat} (h : Tell X acc i left xq) (hg : i = 18 ∨ (xq = 0 ∧ left = 0)) : X = fval 10 acc + 10 ^ acc.length * xq ∧ (0 < xq ∨ Tops acc) := by
  have hl : left = 0 := by
    rcases hg with rfl | ⟨_, h1⟩
    · have := h.lt; simp at this; exact this
    · exact h1
  have he := h.eq
  refine ⟨?_, ?_⟩
  · rcases hg with rfl | ⟨h1, _⟩
    · simpa [hl] using he
    · simpa [hl, h1] using he
  · rcases h.top with h1 | h1 | h1
    · exact .inl h1
    · omega
    · exact .inr h1
theorem Tell.start {X : Nat} {acc : List Nat} {x left xq : Nat} (hf : Figs 10 acc) (hX : X = fval 10 acc + 10 ^ acc.length * x) (hx : x = 1000000000000000000 * xq + left) (hl : left < 1000000000000000000) (h0 : 0 < x) : Tell X acc 0 left xq := by
  refine ⟨hf, by omega, ?_, by simpa using hl, ?_⟩
  · rw [hX, hx, Nat.add_comm left]
  · by_cases h1 : 0 < xq
    · exact .inl h1
    · refine .inr (.inl ?_)
      have : xq = 0 := by omega
      subst this
      simpa [hx] using h0

/-- A digit's letter, and a number's digits, the highest first; "0" of nought. -/
def dch (d : Nat) : UInt8 := UInt8.ofNat (48 + d)
def dtext (x : Nat) : List UInt8 := if x = 0 then [48] else ((figsOf 10 x).map dch).reverse
theorem dch_toNat {d : Nat} (h : d < 10) : (dch d).toNat = 48 + d := by unfold dch; rw [UInt8.toNat_ofNat']; exact Nat.mod_eq_of_lt (by omega)

/-- What a row of digits says. -/
def dval (s : List UInt8) : Nat := s.foldl (fun a c => 10 * a + (c.toNat - 48)) 0
/-- Is a letter a digit? -/
def isD (c : UInt8) : Bool := decide (48 ≤ c.toNat ∧ c.toNat ≤ 57)
theorem dval_nil : dval [] = 0 := rfl
theorem dval_snoc (s : List UInt8) (c : UInt8) : dval (s ++ [c]) = 10 * dval s + (c.toNat - 48) := by simp [dval]
theorem dval_append (a b : List UInt8) : dval (a ++ b) = dval a * 10 ^ b.length + dval b := by
  revert a
  refine snoc_ind (P := fun b => ∀ a, dval (a ++ b) = dval a * 10 ^ b.length + dval b) (fun a => by simp [dval]) ?_ b
  intro b c ih a
  rw [← List.append_assoc, dval_snoc, ih, dval_snoc, List.length_append, List.length_singleton, Nat.pow_succ, Nat.mul_add, ← Nat.mul_assoc, Nat.add_assoc, Nat.mul_comm 10 (dval a), Nat.mul_assoc (dval a), Nat.mul_comm 10 (10 ^ b.length)]
theorem dval_lt (s : List UInt8) (h : ∀ c ∈ s, isD c = true) : dval s < 10 ^ s.length := by
  revert h
  refine snoc_ind (P := fun s => (∀ c ∈ s, isD c = true) → dval s < 10 ^ s.length) (fun _ => by simp [dval]) ?_ s
  intro l c ih h
  have h1 := ih (fun x hx => h x (by simp [hx]))
  have h2 := of_decide_eq_true (h c (by simp))
  rw [dval_snoc, List.length_append, List.length_singleton, Nat.pow_succ]
  omega
/-- The place of the first letter that is no digit. -/
def wrongAt : List UInt8 → Option Nat
  | [] => none
  | c :: s => if isD c then (wrongAt s).map (· + 1) else some 0
theorem wrongAt_none {s : List UInt8} : wrongAt s = none ↔ ∀ c ∈ s, isD c = true := by
  induction s with
  | nil => simp [wrongAt]
  | cons c s ih =>
    unfold wrongAt
    by_cases h : isD c = true
    · rw [if_pos h]; simp [h, ih]
    · rw [if_neg h]; simp [h]
theorem wrongAt_some {s : List UInt8} {i : Nat} (hi : i < s.length) (h1 : ∀ j (h : j < s.length), j < i → isD s[j] = true) (h2 : isD s[i] = false) : wrongAt s = some i := by
  induction s generalizing i with
  | nil => simp at hi
  | cons c s ih =>
    unfold wrongAt
    cases i with
    | zero =>
      have h3 : isD c = false := h2
      rw [if_neg (by rw [h3]; simp)]
    | succ i =>
      have h3 : isD c = true := h1 0 (by simp) (by omega)
      rw [if_pos h3, ih (by simpa using hi) (fun j h hj => h1 (j + 1) (by simpa using h) (by omega)) h2]
      rfl
theorem dval_map_dch {l : List Nat} (h : Figs 10 l) : dval ((l.map dch).reverse) = fval 10 l := by
  induction l with
  | nil => rfl
  | cons d l ih =>
    have hd := h.head
    rw [List.map_cons, List.reverse_cons, dval_snoc, ih h.tail, fval_cons, dch_toNat hd]
    omega
theorem dtext_val (x : Nat) : dval (dtext x) = x := by
  unfold dtext
  by_cases h : x = 0
  · rw [if_pos h, h]; rfl
  · rw [if_neg h, dval_map_dch (isF_figs (by omega) x).figs, (isF_figs (q := 10) (by omega) x).val]
theorem dtext_digits (x : Nat) : ∀ c ∈ dtext x, isD c = true := by
  unfold dtext
  by_cases h : x = 0
  · rw [if_pos h]; intro c hc; simp at hc; subst hc; rfl
  · rw [if_neg h]
    intro c hc
    simp only [List.mem_reverse, List.mem_map] at hc
    obtain ⟨d, hd, rfl⟩ := hc
    have := (isF_figs (q := 10) (by omega) x).figs d hd
    unfold isD
    rw [dch_toNat this]
    simp; omega
/-- A number's digits: the row of digits that says it, without noughts ahead. -/
theorem dtext_of {x : Nat} {acc : List Nat} (h : IsF 10 x acc) (h0 : x ≠ 0) : dtext x = (acc.map dch).reverse := by
  unfold dtext
  rw [if_neg h0, h.eq (by omega)]
/-- A row of digits without a nought ahead is its number's. -/
theorem dtext_canon {l : List UInt8} (hd : ∀ c ∈ l, isD c = true) (hne : l ≠ []) (h0 : l.getD 0 0 ≠ 48 ∨ l.length = 1) : dtext (dval l) = l := by
  obtain ⟨acc, hacc⟩ : ∃ acc : List Nat, acc = (l.map fun c => c.toNat - 48).reverse := ⟨_, rfl⟩
  have hfig : Figs 10 acc := by
    intro d h
    rw [hacc] at h
    simp only [List.mem_reverse, List.mem_map] at h
    obtain ⟨c, hc, rfl⟩ := h
    have := of_decide_eq_true (hd c hc)
    omega
  have hmap : (acc.map dch).reverse = l := by
    rw [hacc, ← List.map_reverse, List.reverse_reverse, List.map_map]
    have : ∀ c ∈ l, (dch ∘ fun c : UInt8 => c.toNat - 48) c = c := by
      intro c hc
      have h1 := of_decide_eq_true (hd c hc)
      apply UInt8.toNat_inj.1
      show (dch (c.toNat - 48)).toNat = c.toNat
      rw [dch_toNat (by omega)]
      omega
    conv => rhs; rw [← List.map_id l]
    exact List.map_congr_left this
  have hval : fval 10 acc = dval l := by rw [← hmap, dval_map_dch hfig]
  by_cases hz : dval l = 0
  · unfold dtext
    rw [if_pos hz]
    rcases h0 with h0 | h0
    · exfalso
      cases l with
      | nil => exact hne rfl
      | cons c l =>
        have h1 := of_decide_eq_true (hd c (by simp))
        have h2 : c ≠ 48 := by simpa [List.getD] using h0
        have h3 : c.toNat ≠ 48 := fun h => h2 (UInt8.toNat_inj.1 h)
        have h4 := dval_append [c] l
        simp only [List.singleton_append] at h4
        have h5 : dval [c] = c.toNat - 48 := by simp [dval]
        rw [h4, h5] at hz
        have h6 : 1 * 10 ^ l.length ≤ (c.toNat - 48) * 10 ^ l.length := Nat.mul_le_mul_right _ (by omega)
        have h7 : 0 < 10 ^ l.length := Nat.pow_pos (by omega)
        omega
    · match l, h0 with
      | [c], _ =>
        have h1 := of_decide_eq_true (hd c (by simp))
        have h5 : dval [c] = c.toNat - 48 := by simp [dval]
        rw [h5] at hz
        have : c = 48 := UInt8.toNat_inj.1 (show c.toNat = 48 by omega)
        rw [this]
  · have htop : Tops acc := by
      intro i hi
      rcases h0 with h0 | h0
      · have hl : acc.length = l.length := by rw [hacc]; simp
        have h1 : acc.getD i 0 = (l.getD 0 0).toNat - 48 := by
          rw [hacc]
          simp only [List.getD]
          rw [List.getElem?_reverse (by simp; omega)]
          simp only [List.length_map, List.getElem?_map]
          rw [show l.length - 1 - i = 0 by omega]
          cases l with
          | nil => exact absurd rfl hne
          | cons c l => simp
        rw [h1]
        cases l with
        | nil => exact absurd rfl hne
        | cons c l =>
          have h2 := of_decide_eq_true (hd c (by simp))
          have h3 : c ≠ 48 := by simpa [List.getD] using h0
          have h4 : c.toNat ≠ 48 := fun h => h3 (UInt8.toNat_inj.1 h)
          simp [List.getD]
          omega
      · have hl : acc.length = 1 := by rw [hacc]; simp [h0]
        obtain ⟨d, rfl⟩ : ∃ d, acc = [d] := List.length_eq_one_iff.1 hl
        obtain rfl : i = 0 := by simp at hi; exact hi
        rw [← hval] at hz
        simpa [fval, List.getD] using hz
    rw [dtext_of ⟨hfig, hval, htop⟩ hz, hmap]
theorem dtext_len {x k : Nat} (h : x < 10 ^ k) (hk : 0 < k) : (dtext x).length ≤ k := by
  unfold dtext
  by_cases h0 : x = 0
  · rw [if_pos h0]; exact hk
  · rw [if_neg h0]
    have := (isF_figs (q := 10) (by omega) x).len_le (by omega) h
    simpa using this
theorem dtext_ne (x : Nat) : dtext x ≠ [] := by
  unfold dtext
  by_cases h0 : x = 0
  · rw [if_pos h0]; simp
  · rw [if_neg h0]
    have := (IsF.pos (by omega) (isF_figs (q := 10) (by omega) x)).2 (by omega)
    intro h
    have h1 := congrArg List.length h
    simp at h1
    rw [h1] at this
    simp at this
theorem dtext_inj {x y : Nat} (h : dtext x = dtext y) : x = y := by rw [← dtext_val x, h, dtext_val]
end Go.Proofs.YtgihkmofpncobaaDoor
