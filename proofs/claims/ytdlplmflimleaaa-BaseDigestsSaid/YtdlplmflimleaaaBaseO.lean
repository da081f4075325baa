/- Plain: rows of bytes and their letters stand alike (Hex and Low). No program in sight. -/
import Derived.Test.YtdlplmflimleaaaBaseC
namespace Go.Proofs.Ytdlplmflimleaaa

/-- At most, as Go's <= of strings. -/
def lle (x y : List UInt8) : Bool := Op.bytesLess x y || x == y
/-- The same of rows of numbers. -/
def nle : List Nat → List Nat → Bool
  | [], _ => true
  | _ :: _, [] => false
  | a :: x, b :: y => decide (a < b) || (a == b && nle x y)

theorem lle_cons (a b : UInt8) (x y : List UInt8) : lle (a :: x) (b :: y) = (decide (a.toNat < b.toNat) || (a == b && lle x y)) := by
  unfold lle
  rw [Op.bytesLess]
  have e : decide (a < b) = decide (a.toNat < b.toNat) := by rw [decide_eq_decide]; exact UInt8.lt_iff_toNat_lt
  rw [e]
  cases h1 : decide (a.toNat < b.toNat) <;> cases h2 : (a == b) <;> cases h3 : Op.bytesLess x y <;> simp_all

theorem lle_nle (f : Nat → UInt8) (q : Nat) (hf : ∀ i j, i < q → j < q → ((f i).toNat < (f j).toNat ↔ i < j)) :
    ∀ x y : List Nat, (∀ d ∈ x, d < q) → (∀ d ∈ y, d < q) → lle (x.map f) (y.map f) = nle x y
  | [], y, _, _ => by cases y <;> simp [lle, nle, Op.bytesLess]
  | a :: x, [], _, _ => by simp [lle, nle, Op.bytesLess]
  | a :: x, b :: y, hx, hy => by
    have ha := hx a (by simp)
    have hb := hy b (by simp)
    have ih := lle_nle f q hf x y (fun d h => hx d (by simp [h])) (fun d h => hy d (by simp [h]))
    rw [List.map_cons, List.map_cons, lle_cons, nle, ih]
    have e1 : decide ((f a).toNat < (f b).toNat) = decide (a < b) := by rw [decide_eq_decide]; exact hf a b ha hb
    have e2 : (f a == f b) = (a == b) := by
      rw [Bool.eq_iff_iff, beq_iff_eq, beq_iff_eq]
      constructor
      · intro h
        have h1 := hf a b ha hb
        have h2 := hf b a hb ha
        rw [h] at h1 h2
        omega
      · intro h; rw [h]
    rw [e1, e2]

theorem num_cons (q d : Nat) (l : List Nat) : num q (d :: l) = d * q ^ l.length + num q l := by
  have := num_append q [d] l
  simpa [num] using this

/-- Rows of digits stand as the fractions that they are, the shorter one first. -/
theorem nle_frac (q : Nat) : ∀ x y : List Nat, (∀ d ∈ x, d < q) → (∀ d ∈ y, d < q) →
    (nle x y = true ↔ num q x * q ^ y.length < num q y * q ^ x.length ∨ (num q x * q ^ y.length = num q y * q ^ x.length ∧ x.length ≤ y.length))
  | [], y, _, _ => by
    simp [nle, num_nil]
    omega
  | a :: x, [], hx, _ => by
    simp [nle, num_nil]
  | a :: x, b :: y, hx, hy => by
    have ih := nle_frac q x y (fun d h => hx d (by simp [h])) (fun d h => hy d (by simp [h]))
    have ha := hx a (by simp)
    have hq : 0 < q := by omega
    have h1 := num_lt q x (fun d h => hx d (by simp [h]))
    have h2 := num_lt q y (fun d h => hy d (by simp [h]))
    have e1 : num q (a :: x) * q ^ (b :: y).length = (a * (q ^ x.length * q ^ y.length) + num q x * q ^ y.length) * q := by
      rw [num_cons, List.length_cons, Nat.pow_succ, Nat.add_mul, Nat.add_mul]
      simp only [Nat.mul_assoc]
    have e2 : num q (b :: y) * q ^ (a :: x).length = (b * (q ^ x.length * q ^ y.length) + num q y * q ^ x.length) * q := by
      rw [num_cons, List.length_cons, Nat.pow_succ, Nat.add_mul, Nat.add_mul]
      simp only [Nat.mul_assoc]
      rw [← Nat.mul_assoc (q ^ y.length), Nat.mul_comm (q ^ y.length), Nat.mul_assoc]
    have l1 : num q x * q ^ y.length < q ^ x.length * q ^ y.length := Nat.mul_lt_mul_of_pos_right h1 (Nat.pow_pos hq)
    have l2 : num q y * q ^ x.length < q ^ x.length * q ^ y.length := by
      rw [Nat.mul_comm (q ^ x.length)]; exact Nat.mul_lt_mul_of_pos_right h2 (Nat.pow_pos hq)
    rw [e1, e2, Nat.mul_lt_mul_right hq, Nat.mul_right_cancel_iff hq]
    generalize num q x * q ^ y.length = A at *
    generalize num q y * q ^ x.length = B at *
    generalize q ^ x.length * q ^ y.length = P at *
    rw [nle, Bool.or_eq_true, Bool.and_eq_true, decide_eq_true_eq, beq_iff_eq, ih]
    rw [List.length_cons, List.length_cons]
    rcases Nat.lt_trichotomy a b with h | h | h
    · have : a * P + P ≤ b * P := by rw [← Nat.succ_mul]; exact Nat.mul_le_mul_right _ h
      constructor
      · intro _; left; omega
      · intro _; left; exact h
    · subst h
      omega
    · have : b * P + P ≤ a * P := by rw [← Nat.succ_mul]; exact Nat.mul_le_mul_right _ h
      constructor
      · rintro (h' | ⟨h', _⟩) <;> omega
      · rintro (h' | ⟨h', _⟩) <;> omega

theorem padded_lt (k : Nat) (hk : 0 < k) (bs : List UInt8) : padded k bs < (2 ^ k) ^ lettersOf k bs.length := by
  have h := lettersOf_ge k bs.length hk
  have h8 := nat8_lt bs
  rw [pow256] at h8
  unfold padded
  rw [← Nat.pow_mul]
  have e : 2 ^ (k * lettersOf k bs.length) = 2 ^ (8 * bs.length) * 2 ^ (k * lettersOf k bs.length - 8 * bs.length) := by rw [← Nat.pow_add]; congr 1; omega
  rw [e]
  exact Nat.mul_lt_mul_of_pos_right h8 (Nat.two_pow_pos _)
theorem lnums_num (k : Nat) (hk : 0 < k) (bs : List UInt8) : num (2 ^ k) (lnums k bs) = padded k bs := by
  unfold lnums
  rw [num_digs, Nat.mod_eq_of_lt (padded_lt k hk bs)]

/-- Bytes, and their letters' numbers, stand alike. -/
theorem lnums_nle (k : Nat) (h0 : k = 4 ∨ k = 5) (b c : List UInt8) : nle (lnums k b) (lnums k c) = nle (b.map UInt8.toNat) (c.map UInt8.toNat) := by
  have hk : 0 < k := by omega
  have d1 : ∀ (l : List UInt8), ∀ d ∈ lnums k l, d < 2 ^ k := fun l => digs_lt _ _ _ (Nat.two_pow_pos _)
  have d2 : ∀ (l : List UInt8), ∀ d ∈ l.map UInt8.toNat, d < 256 := by intro l d hd; simp at hd; obtain ⟨x, _, rfl⟩ := hd; exact UInt8.toNat_lt x
  rw [Bool.eq_iff_iff, nle_frac (2 ^ k) _ _ (d1 b) (d1 c), nle_frac 256 _ _ (d2 b) (d2 c), lnums_num k hk, lnums_num k hk]
  have hb : (lnums k b).length = lettersOf k b.length := digs_length _ _ _
  have hc : (lnums k c).length = lettersOf k c.length := digs_length _ _ _
  rw [hb, hc, List.length_map, List.length_map]
  show padded k b * _ < padded k c * _ ∨ _ ↔ nat8 b * _ < nat8 c * _ ∨ (nat8 b * _ = nat8 c * _ ∧ _)
  have gb := lettersOf_ge k b.length hk
  have gc := lettersOf_ge k c.length hk
  have hL : lettersOf k b.length ≤ lettersOf k c.length ↔ b.length ≤ c.length := by
    unfold lettersOf
    rcases h0 with rfl | rfl <;> omega
  rw [hL]
  unfold padded
  generalize lettersOf k b.length = Lb at *
  generalize lettersOf k c.length = Lc at *
  have e1 : nat8 b * 2 ^ (k * Lb - 8 * b.length) * (2 ^ k) ^ Lc = nat8 b * 256 ^ c.length * 2 ^ (k * Lb - 8 * b.length + (k * Lc - 8 * c.length)) := by
    rw [pow256, ← Nat.pow_mul, Nat.mul_assoc, Nat.mul_assoc, ← Nat.pow_add, ← Nat.pow_add]
    congr 2; omega
  have e2 : nat8 c * 2 ^ (k * Lc - 8 * c.length) * (2 ^ k) ^ Lb = nat8 c * 256 ^ b.length * 2 ^ (k * Lb - 8 * b.length + (k * Lc - 8 * c.length)) := by
    rw [pow256, ← Nat.pow_mul, Nat.mul_assoc, Nat.mul_assoc, ← Nat.pow_add, ← Nat.pow_add]
    congr 2; omega
  rw [e1, e2, Nat.mul_lt_mul_right (Nat.two_pow_pos _), Nat.mul_right_cancel_iff (Nat.two_pow_pos _)]

theorem Lat_mono1 : ∀ i, i < 16 → ∀ j, j < 16 → ((Lat 1 i).toNat < (Lat 1 j).toNat ↔ i < j) := by decide +kernel
theorem Lat_mono2 : ∀ i, i < 32 → ∀ j, j < 32 → ((Lat 2 i).toNat < (Lat 2 j).toNat ↔ i < j) := by decide +kernel

/-- Rows of bytes and their letters stand alike. -/
theorem lets_lle (a : Int) (k : Nat) (h : a = 1 ∧ k = 4 ∨ a = 2 ∧ k = 5) (b c : List UInt8) : lle (lets a k b) (lets a k c) = lle b c := by
  have hid : ∀ l : List UInt8, l = (l.map UInt8.toNat).map UInt8.ofNat := by
    intro l
    induction l with
    | nil => rfl
    | cons x l ih => rw [List.map_cons, List.map_cons, ← ih]; simp
  have d2 : ∀ (l : List UInt8), ∀ d ∈ l.map UInt8.toNat, d < 256 := by intro l d hd; simp at hd; obtain ⟨x, _, rfl⟩ := hd; exact UInt8.toNat_lt x
  have e : lle b c = nle (b.map UInt8.toNat) (c.map UInt8.toNat) := by
    rw [← lle_nle UInt8.ofNat 256 (fun i j hi hj => by rw [UInt8.toNat_ofNat_of_lt' (by simpa using hi), UInt8.toNat_ofNat_of_lt' (by simpa using hj)]) _ _ (d2 b) (d2 c), ← hid, ← hid]
  rw [e, ← lnums_nle k (by omega)]
  unfold lets
  have d1 : ∀ (l : List UInt8), ∀ d ∈ lnums k l, d < 2 ^ k := fun l => digs_lt _ _ _ (Nat.two_pow_pos _)
  rcases h with ⟨rfl, rfl⟩ | ⟨rfl, rfl⟩
  · exact lle_nle (Lat 1) 16 (fun i j hi hj => Lat_mono1 i hi j hj) _ _ (d1 b) (d1 c)
  · exact lle_nle (Lat 2) 32 (fun i j hi hj => Lat_mono2 i hi j hj) _ _ (d1 b) (d1 c)

theorem lets_nil (a : Int) (k : Nat) (hk : 0 < k) (bs : List UInt8) (h : 0 < bs.length) : lets a k bs ≠ [] := by
  intro he
  have := lets_length a k bs
  rw [he] at this
  have h2 := lettersOf_ge k bs.length hk
  simp at this
  rw [← this] at h2
  omega
end Go.Proofs.Ytdlplmflimleaaa
