/- Plain: numbers and rows of digits to a base, the highest first. No program in sight. -/
namespace Go.Proofs.YtgihkmofpncobaaDoor

/-- The number of a row of digits, the highest first. -/
def num (q : Nat) (l : List Nat) : Nat := l.foldl (fun a d => a * q + d) 0
/-- The n lowest digits of a number, the highest first. -/
def digs (q : Nat) : Nat → Nat → List Nat
  | 0, _ => []
  | n + 1, V => digs q n (V / q) ++ [V % q]

theorem num_nil (q : Nat) : num q [] = 0 := rfl
theorem num_snoc (q : Nat) (l : List Nat) (d : Nat) : num q (l ++ [d]) = num q l * q + d := by simp [num]
theorem digs_length (q n V : Nat) : (digs q n V).length = n := by
  induction n generalizing V with
  | zero => rfl
  | succ n ih => simp [digs, ih]

theorem snoc_ind {α : Type} {P : List α → Prop} (h0 : P []) (h1 : ∀ l d, P l → P (l ++ [d])) : ∀ l, P l := by
  intro l
  have : ∀ n (l : List α), l.length = n → P l := by
    intro n
    induction n with
    | zero => intro l hl; rw [List.eq_nil_of_length_eq_zero hl]; exact h0
    | succ n ih =>
      intro l hl
      rcases List.eq_nil_or_concat l with rfl | ⟨l', d, rfl⟩
      · exact h0
      · rw [List.concat_eq_append] at hl ⊢
        exact h1 _ _ (ih _ (by simpa using hl))
  exact this _ l rfl

theorem num_digs (q n V : Nat) : num q (digs q n V) = V % q ^ n := by
  induction n generalizing V with
  | zero => simp [digs, num, Nat.mod_one]
  | succ n ih =>
    rw [digs, num_snoc, ih, Nat.pow_succ, Nat.mul_comm (q ^ n) q, Nat.mod_mul]
    rw [Nat.mul_comm, Nat.add_comm]

theorem digs_num (q : Nat) : ∀ l : List Nat, (∀ d ∈ l, d < q) → digs q l.length (num q l) = l := by
  refine snoc_ind (fun _ => rfl) ?_
  intro l d ih h
  have hd : d < q := h d (by simp)
  have hq : 0 < q := by omega
  rw [List.length_append, List.length_singleton, digs, num_snoc]
  have e1 : (num q l * q + d) / q = num q l := by
    rw [Nat.add_comm, Nat.add_mul_div_right _ _ hq, Nat.div_eq_of_lt hd, Nat.zero_add]
  have e2 : (num q l * q + d) % q = d := by
    rw [Nat.add_comm, Nat.add_mul_mod_self_right, Nat.mod_eq_of_lt hd]
  rw [e1, e2, ih (fun x hx => h x (by simp [hx]))]

theorem num_lt (q : Nat) : ∀ l : List Nat, (∀ d ∈ l, d < q) → num q l < q ^ l.length := by
  refine snoc_ind (fun _ => by simp [num]) ?_
  intro l d ih h
  have hd : d < q := h d (by simp)
  have := ih (fun x hx => h x (by simp [hx]))
  rw [List.length_append, List.length_singleton, num_snoc, Nat.pow_succ]
  calc num q l * q + d < num q l * q + q := by omega
    _ = (num q l + 1) * q := by rw [Nat.succ_mul]
    _ ≤ q ^ l.length * q := Nat.mul_le_mul_right _ this

theorem digs_add (q a c X : Nat) : digs q (a + c) X = digs q a (X / q ^ c) ++ digs q c X := by
  induction c generalizing X with
  | zero => simp [digs]
  | succ c ih =>
    rw [← Nat.add_assoc, digs, ih, digs, List.append_assoc, Nat.div_div_eq_div_mul, Nat.pow_succ, Nat.mul_comm q]

theorem digs_lt (q n V : Nat) (hq : 0 < q) : ∀ d ∈ digs q n V, d < q := by
  induction n generalizing V with
  | zero => simp [digs]
  | succ n ih =>
    intro d hd
    rw [digs, List.mem_append] at hd
    rcases hd with hd | hd
    · exact ih _ d hd
    · simp at hd; subst hd; exact Nat.mod_lt _ hq

theorem digs_mod (q n V : Nat) : digs q n (V % q ^ n) = digs q n V := by
  by_cases hq : q = 0
  · subst hq
    cases n with
    | zero => rfl
    | succ n => simp [Nat.pow_succ]
  · have h := digs_num q (digs q n V) (digs_lt q n V (by omega))
    rw [digs_length, num_digs] at h
    exact h

theorem digs_get (q n V i : Nat) (hi : i < n) : (digs q n V)[i]? = some (V / q ^ (n - 1 - i) % q) := by
  induction n generalizing V i with
  | zero => omega
  | succ n ih =>
    rw [digs]
    by_cases h : i < n
    · rw [List.getElem?_append_left (by rw [digs_length]; exact h), ih _ _ h, Nat.div_div_eq_div_mul, Nat.mul_comm, ← Nat.pow_succ]
      congr 4
      omega
    · obtain rfl : i = n := by omega
      rw [List.getElem?_append_right (by rw [digs_length]; omega), digs_length]
      simp

theorem num_append (q : Nat) (a b : List Nat) : num q (a ++ b) = num q a * q ^ b.length + num q b := by
  revert b
  refine snoc_ind (by simp [num]) ?_
  intro b d ih
  rw [← List.append_assoc, num_snoc, ih, num_snoc, List.length_append, List.length_singleton, Nat.pow_succ, Nat.add_mul, Nat.mul_assoc, Nat.add_assoc]

theorem num_inj (q : Nat) (a b : List Nat) (ha : ∀ d ∈ a, d < q) (hb : ∀ d ∈ b, d < q) (hl : a.length = b.length) (h : num q a = num q b) : a = b := by
  rw [← digs_num q a ha, ← digs_num q b hb, hl, h]
end Go.Proofs.YtgihkmofpncobaaDoor
