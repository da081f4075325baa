/- Plain: rows of figures to a base, the least first. No program in sight. -/
import Derived.Test.YtgihkmofpncobaaDoorNum
namespace Go.Proofs.YtgihkmofpncobaaDoor

/-- The number of a row of figures, the least first. -/
def fval (q : Nat) : List Nat → Nat
  | [] => 0
  | d :: l => d + q * fval q l
/-- Each is a figure. -/
def Figs (q : Nat) (l : List Nat) : Prop := ∀ d ∈ l, d < q
/-- No nought above. -/
def Tops (l : List Nat) : Prop := ∀ i, i + 1 = l.length → l.getD i 0 ≠ 0
/-- The figures of a number. -/
structure IsF (q x : Nat) (l : List Nat) : Prop where
  figs : Figs q l
  val : fval q l = x
  tops : Tops l

theorem fval_nil (q : Nat) : fval q [] = 0 := rfl
theorem fval_cons (q d : Nat) (l : List Nat) : fval q (d :: l) = d + q * fval q l := rfl
theorem fval_append (q : Nat) (a b : List Nat) : fval q (a ++ b) = fval q a + q ^ a.length * fval q b := by
  induction a with
  | nil => simp [fval]
  | cons d a ih =>
    rw [List.cons_append, fval_cons, ih, fval_cons, List.length_cons, Nat.pow_succ, Nat.mul_add, Nat.add_assoc, Nat.mul_comm (q ^ a.length) q, Nat.mul_assoc]
theorem fval_snoc (q : Nat) (a : List Nat) (d : Nat) : fval q (a ++ [d]) = fval q a + q ^ a.length * d := by
  rw [fval_append]; simp [fval]
theorem Figs.nil (q : Nat) : Figs q [] := fun _ h => by cases h
theorem Figs.snoc {q d : Nat} {l : List Nat} (h : Figs q l) (hd : d < q) : Figs q (l ++ [d]) := by
  intro x hx
  rcases List.mem_append.1 hx with h1 | h1
  · exact h x h1
  · simp at h1; omega
theorem Figs.cons {q d : Nat} {l : List Nat} (h : Figs q l) (hd : d < q) : Figs q (d :: l) := by
  intro x hx
  rcases List.mem_cons.1 hx with h1 | h1
  · omega
  · exact h x h1
theorem Figs.append {q : Nat} {l m : List Nat} (h : Figs q l) (k : Figs q m) : Figs q (l ++ m) := fun x hx => (List.mem_append.1 hx).elim (h x) (k x)
theorem Figs.take {q : Nat} {l : List Nat} (h : Figs q l) (n : Nat) : Figs q (l.take n) := fun x hx => h x (List.mem_of_mem_take hx)
theorem Figs.drop {q : Nat} {l : List Nat} (h : Figs q l) (n : Nat) : Figs q (l.drop n) := fun x hx => h x (List.mem_of_mem_drop hx)
theorem Figs.tail {q d : Nat} {l : List Nat} (h : Figs q (d :: l)) : Figs q l := fun x hx => h x (List.mem_cons_of_mem _ hx)
theorem Figs.head {q d : Nat} {l : List Nat} (h : Figs q (d :: l)) : d < q := h d (List.mem_cons_self ..)
theorem Figs.set {q d i : Nat} {l : List Nat} (h : Figs q l) (hd : d < q) : Figs q (l.set i d) := by
  intro x hx
  rcases List.mem_or_eq_of_mem_set hx with h1 | h1
  · exact h x h1
  · omega
theorem Figs.get {q i : Nat} {l : List Nat} (h : Figs q l) (hq : 0 < q) : l.getD i 0 < q := by
  by_cases hi : i < l.length
  · simp [List.getD, hi]; exact h _ (List.getElem_mem hi)
  · simp [List.getD, show l.length ≤ i by omega]; exact hq

theorem fval_lt {q : Nat} {l : List Nat} (h : Figs q l) : fval q l < q ^ l.length := by
  induction l with
  | nil => simp [fval]
  | cons d l ih =>
    have h1 := ih h.tail
    have h2 := h.head
    rw [fval_cons, List.length_cons, Nat.pow_succ, Nat.mul_comm _ q]
    have h3 : q * (fval q l + 1) ≤ q * q ^ l.length := Nat.mul_le_mul_left q h1
    rw [Nat.mul_add, Nat.mul_one] at h3
    omega
theorem fval_get {q : Nat} {l : List Nat} (h : Figs q l) (i : Nat) : fval q l / q ^ i % q = l.getD i 0 := by
  induction l generalizing i with
  | nil => simp [fval]
  | cons d l ih =>
    have hd := h.head
    cases i with
    | zero => simp [fval_cons, Nat.add_mul_mod_self_left, Nat.mod_eq_of_lt hd]
    | succ i =>
      have e : (d + q * fval q l) / q = fval q l := by
        rw [Nat.add_mul_div_left _ _ (by omega), Nat.div_eq_of_lt hd, Nat.zero_add]
      rw [fval_cons, Nat.pow_succ, Nat.mul_comm (q ^ i) q, ← Nat.div_div_eq_div_mul, e, ih h.tail]
      simp [List.getD]
theorem fval_take {q : Nat} {l : List Nat} (h : Figs q l) (i : Nat) : fval q (l.take i) = fval q l % q ^ i := by
  have h1 := fval_append q (l.take i) (l.drop i)
  rw [List.take_append_drop] at h1
  by_cases hi : i ≤ l.length
  · have h2 := fval_lt (h.take i)
    rw [List.length_take, Nat.min_eq_left hi] at h1 h2
    rw [h1, Nat.add_mul_mod_self_left, Nat.mod_eq_of_lt h2]
  · rw [List.take_of_length_le (by omega)]
    have h2 := fval_lt h
    rcases Nat.eq_zero_or_pos q with hq | hq
    · subst hq
      cases l with
      | nil => simp [fval]
      | cons d l => have := h.head; omega
    · rw [Nat.mod_eq_of_lt (Nat.lt_of_lt_of_le h2 (Nat.pow_le_pow_right hq (by omega)))]
theorem fval_drop {q : Nat} {l : List Nat} (h : Figs q l) (i : Nat) : fval q (l.drop i) = fval q l / q ^ i := by
  induction l generalizing i with
  | nil => simp [fval]
  | cons d l ih =>
    have hd := h.head
    cases i with
    | zero => simp
    | succ i =>
      have e : (d + q * fval q l) / q = fval q l := by
        rw [Nat.add_mul_div_left _ _ (by omega), Nat.div_eq_of_lt hd, Nat.zero_add]
      rw [List.drop_succ_cons, ih h.tail, fval_cons, Nat.pow_succ, Nat.mul_comm (q ^ i) q, ← Nat.div_div_eq_div_mul, e]
theorem fval_zero {q : Nat} {l : List Nat} (h : ∀ d ∈ l, d = 0) : fval q l = 0 := by
  induction l with
  | nil => rfl
  | cons d l ih =>
    rw [fval_cons, ih (fun x hx => h x (List.mem_cons_of_mem _ hx)), h d (List.mem_cons_self ..)]; simp
/-- Noughts above taken away. -/
theorem fval_cut {q n : Nat} {l : List Nat} (hn : n ≤ l.length) (h : ∀ j, n ≤ j → l.getD j 0 = 0) : fval q (l.take n) = fval q l := by
  have h1 := fval_append q (l.take n) (l.drop n)
  rw [List.take_append_drop, fval_zero (l := l.drop n), Nat.mul_zero, Nat.add_zero] at h1
  · exact h1.symm
  · intro d hd
    obtain ⟨j, hj, rfl⟩ := List.mem_iff_getElem.1 hd
    have := h (n + j) (by omega)
    simp [List.getD] at this
    rw [List.getElem_drop]
    rw [List.length_drop] at hj
    rw [List.getElem?_eq_getElem (by omega)] at this
    simpa using this
theorem IsF.nil (q : Nat) : IsF q 0 [] := ⟨Figs.nil q, rfl, fun i h => by simp at h⟩
theorem IsF.of_cut {q n : Nat} {l : List Nat} (hf : Figs q l) (hn : n ≤ l.length) (h : ∀ j, n ≤ j → l.getD j 0 = 0) (ht : n = 0 ∨ l.getD (n - 1) 0 ≠ 0) : IsF q (fval q l) (l.take n) := by
  refine ⟨hf.take n, fval_cut hn h, fun i hi => ?_⟩
  rw [List.length_take, Nat.min_eq_left hn] at hi
  rcases ht with h0 | h1
  · omega
  · rw [show n - 1 = i by omega] at h1
    simpa [List.getD, List.getElem?_take, show i < n by omega] using h1
theorem IsF.lt {q x : Nat} {l : List Nat} (h : IsF q x l) : x < q ^ l.length := by rw [← h.val]; exact fval_lt h.figs
theorem IsF.get {q x : Nat} {l : List Nat} (h : IsF q x l) (i : Nat) : l.getD i 0 = x / q ^ i % q := by rw [← h.val]; exact (fval_get h.figs i).symm
theorem IsF.ge {q x : Nat} {l : List Nat} (h : IsF q x l) (i : Nat) (hi : i + 1 = l.length) : q ^ i ≤ x := by
  have h1 := h.get i
  have h2 := h.tops i hi
  rw [h1] at h2
  rcases Nat.lt_or_ge x (q ^ i) with h3 | h3
  · rw [Nat.div_eq_of_lt h3] at h2; simp at h2
  · exact h3
theorem IsF.zero {q : Nat} {l : List Nat} (hq : 0 < q) (h : IsF q 0 l) : l = [] := by
  cases l with
  | nil => rfl
  | cons d l =>
    have := h.ge l.length rfl
    have := Nat.pow_pos (n := l.length) hq
    omega
theorem IsF.pos {q x : Nat} {l : List Nat} (hq : 0 < q) (h : IsF q x l) : 0 < l.length ↔ 0 < x := by
  constructor
  · intro h1
    have := h.ge (l.length - 1) (by omega)
    have := Nat.pow_pos (n := l.length - 1) hq
    omega
  · intro h1
    rcases Nat.eq_zero_or_pos l.length with h2 | h2
    · obtain rfl := List.eq_nil_of_length_eq_zero h2
      have := h.val; simp [fval] at this; omega
    · exact h2
theorem pow_lt_inj {q a b : Nat} (hq : 1 < q) (h : q ^ a < q ^ b) : a < b := by
  rcases Nat.lt_or_ge a b with h1 | h1
  · exact h1
  · have := Nat.pow_le_pow_right (show 0 < q by omega) h1; omega
theorem IsF.len_le {q x n : Nat} {l : List Nat} (hq : 1 < q) (h : IsF q x l) (hx : x < q ^ n) : l.length ≤ n := by
  rcases Nat.eq_zero_or_pos l.length with h2 | h2
  · omega
  · have h3 := h.ge (l.length - 1) (by omega)
    have := pow_lt_inj hq (Nat.lt_of_le_of_lt h3 hx)
    omega
theorem IsF.len_mono {q x y : Nat} {l m : List Nat} (hq : 1 < q) (h : IsF q x l) (k : IsF q y m) (hxy : x ≤ y) : l.length ≤ m.length :=
  h.len_le hq (Nat.lt_of_le_of_lt hxy k.lt)
theorem IsF.inj {q x : Nat} {l m : List Nat} (hq : 1 < q) (h : IsF q x l) (k : IsF q x m) : l = m := by
  have hl : l.length = m.length := Nat.le_antisymm (h.len_mono hq k (Nat.le_refl _)) (k.len_mono hq h (Nat.le_refl _))
  refine List.ext_getElem hl fun i h1 h2 => ?_
  have a := h.get i
  have b := k.get i
  simp [List.getD, h1, h2] at a b
  rw [a, b]
/-- The n lowest figures of a number. -/
def lows (q : Nat) : Nat → Nat → List Nat
  | 0, _ => []
  | n + 1, x => x % q :: lows q n (x / q)
theorem lows_length (q n x : Nat) : (lows q n x).length = n := by
  induction n generalizing x with
  | zero => rfl
  | succ n ih => simp [lows, ih]
theorem lows_figs (q n x : Nat) (hq : 0 < q) : Figs q (lows q n x) := by
  induction n generalizing x with
  | zero => exact Figs.nil q
  | succ n ih => exact (ih _).cons (Nat.mod_lt _ hq)
theorem fval_lows (q n x : Nat) : fval q (lows q n x) = x % q ^ n := by
  induction n generalizing x with
  | zero => simp [lows, fval, Nat.mod_one]
  | succ n ih => rw [lows, fval_cons, ih, Nat.pow_succ, Nat.mul_comm (q ^ n) q, Nat.mod_mul]
theorem lows_get (q n x i : Nat) (hi : i < n) : (lows q n x)[i]? = some (x / q ^ i % q) := by
  induction n generalizing x i with
  | zero => omega
  | succ n ih =>
    cases i with
    | zero => simp [lows]
    | succ i => rw [lows, List.getElem?_cons_succ, ih _ _ (by omega), Nat.div_div_eq_div_mul, Nat.mul_comm, ← Nat.pow_succ]
theorem lows_snoc (q n x : Nat) : lows q (n + 1) x = lows q n x ++ [x / q ^ n % q] := by
  induction n generalizing x with
  | zero => simp [lows]
  | succ n ih =>
    rw [lows, ih (x / q), lows, List.cons_append, Nat.div_div_eq_div_mul, Nat.mul_comm q, ← Nat.pow_succ]
theorem lows_of {q : Nat} {l : List Nat} (h : Figs q l) : lows q l.length (fval q l) = l := by
  induction l with
  | nil => rfl
  | cons d l ih =>
    have hd := h.head
    rw [List.length_cons, lows, fval_cons, Nat.add_mul_mod_self_left, Nat.mod_eq_of_lt hd, Nat.add_mul_div_left _ _ (by omega), Nat.div_eq_of_lt hd, Nat.zero_add, ih h.tail]
theorem figs_inj {q : Nat} {l m : List Nat} (h : Figs q l) (k : Figs q m) (hl : l.length = m.length) (hv : fval q l = fval q m) : l = m := by
  rw [← lows_of h, ← lows_of k, hl, hv]
/-- How many figures a number has. -/
def flen (q : Nat) : Nat → Nat → Nat
  | 0, _ => 0
  | fuel + 1, x => if x = 0 then 0 else flen q fuel (x / q) + 1
theorem flen_spec {q : Nat} (hq : 1 < q) : ∀ fuel x, x < 2 ^ fuel → IsF q x (lows q (flen q fuel x) x) := by
  intro fuel
  induction fuel with
  | zero =>
    intro x hx
    obtain rfl : x = 0 := (by simpa using hx)
    exact IsF.nil q
  | succ fuel ih =>
    intro x hx
    unfold flen
    by_cases h0 : x = 0
    · rw [if_pos h0, h0]; exact IsF.nil q
    · rw [if_neg h0, lows]
      have hlt : x / q < 2 ^ fuel := by
        rw [Nat.pow_succ] at hx
        have h1 : x / q ≤ x / 2 := Nat.div_le_div_left (by omega) (by omega)
        omega
      have hi := ih (x / q) hlt
      refine ⟨hi.figs.cons (Nat.mod_lt _ (by omega)), ?_, ?_⟩
      · rw [fval_cons, hi.val, Nat.mod_add_div]
      · intro i hi'
        cases i with
        | zero =>
          rw [List.length_cons] at hi'
          have hl : (lows q (flen q fuel (x / q)) (x / q)) = [] := List.eq_nil_of_length_eq_zero (by omega)
          have hz : x / q = 0 := by rw [← hi.val, hl]; rfl
          have := Nat.mod_add_div x q
          simp [List.getD]
          rw [hz] at this
          simp at this
          omega
        | succ i =>
          have := hi.tops i (by rw [List.length_cons] at hi'; omega)
          simpa [List.getD] using this
/-- The figures of a number. -/
def figsOf (q x : Nat) : List Nat := lows q (flen q (x + 1) x) x
theorem isF_figs {q : Nat} (hq : 1 < q) (x : Nat) : IsF q x (figsOf q x) := flen_spec hq _ _ (Nat.lt_of_lt_of_le Nat.lt_two_pow_self (Nat.pow_le_pow_right (by omega) (by omega)))
theorem IsF.eq {q x : Nat} {l : List Nat} (hq : 1 < q) (h : IsF q x l) : l = figsOf q x := h.inj hq (isF_figs hq x)
end Go.Proofs.YtgihkmofpncobaaDoor
