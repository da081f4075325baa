/- Plain: the forms of characters, where bytes go wrong, what a feeder holds. No program in sight. -/
import GoSem.Core.Utf8
namespace Go.Proofs.Ytmdgopclcdmenaa

/-- The byte at a place; 0 behind the last. -/
def bt (s : List UInt8) (i : Nat) : Nat := (s.getD i 0).toNat
theorem bt_lt (s : List UInt8) (i : Nat) : bt s i < 256 := UInt8.toNat_lt _
theorem bt_get (s : List UInt8) (i : Nat) (h : i < s.length) : bt s i = s[i].toNat := by simp [bt, List.getD, h]
theorem bt_append (s t : List UInt8) (i : Nat) (h : i < s.length) : bt (s ++ t) i = bt s i := by
  simp [bt, List.getD, List.getElem?_append_left h]
theorem bt_drop (s : List UInt8) (i j : Nat) : bt (s.drop i) j = bt s (i + j) := by
  simp [bt, List.getD, List.getElem?_drop]

/-- How many bytes a form has that begins with a byte; 0: none does. -/
def wd (c : Nat) : Nat := if c < 128 then 1 else if c < 194 then 0 else if c < 224 then 2 else if c < 240 then 3 else if c < 245 then 4 else 0
/-- From where up to where the second byte may go. -/
def lo (c : Nat) : Nat := if c = 224 then 160 else if c = 240 then 144 else 128
def hi (c : Nat) : Nat := if c = 237 then 159 else if c = 244 then 143 else 191
def okb (c i d : Nat) : Bool := if i = 1 then decide (lo c ≤ d ∧ d ≤ hi c) else decide (128 ≤ d ∧ d ≤ 191)
theorem wd_le (c : Nat) : wd c ≤ 4 := by unfold wd; (repeat' split) <;> omega
theorem okb_cont {c i d : Nat} (h : okb c i d = true) : 128 ≤ d ∧ d ≤ 191 := by
  unfold okb at h
  have h1 : 128 ≤ lo c := by unfold lo; (repeat' split) <;> omega
  have h2 : hi c ≤ 191 := by unfold hi; (repeat' split) <;> omega
  by_cases hi1 : i = 1
  · rw [if_pos hi1] at h; have := of_decide_eq_true h; omega
  · rw [if_neg hi1] at h; exact of_decide_eq_true h

/-- The first byte behind the k-th with which a form of n bytes at i goes wrong; n: none. -/
def firstBad (s : List UInt8) (i n k : Nat) : Nat :=
  if k < n then (if i + k < s.length ∧ okb (bt s i) k (bt s (i + k)) = true then firstBad s i n (k + 1) else k) else n
termination_by n - k
theorem firstBad_on {s : List UInt8} {i n k : Nat} (h : k < n) (h1 : i + k < s.length) (h2 : okb (bt s i) k (bt s (i + k)) = true) : firstBad s i n k = firstBad s i n (k + 1) := by
  rw [firstBad, if_pos h, if_pos ⟨h1, h2⟩]
theorem firstBad_end {s : List UInt8} {i n k : Nat} (h : n ≤ k) : firstBad s i n k = n := by rw [firstBad, if_neg (by omega)]
theorem firstBad_here {s : List UInt8} {i n k : Nat} (h : k < n) (h1 : ¬ (i + k < s.length ∧ okb (bt s i) k (bt s (i + k)) = true)) : firstBad s i n k = k := by
  rw [firstBad, if_pos h, if_neg h1]
theorem firstBad_spec (s : List UInt8) (i n k : Nat) (hk : k ≤ n) : k ≤ firstBad s i n k ∧ firstBad s i n k ≤ n ∧ (∀ j, k ≤ j → j < firstBad s i n k → i + j < s.length ∧ okb (bt s i) j (bt s (i + j)) = true) ∧
    (firstBad s i n k < n → ¬ (i + firstBad s i n k < s.length ∧ okb (bt s i) (firstBad s i n k) (bt s (i + firstBad s i n k)) = true)) := by
  by_cases h : k < n
  · by_cases h1 : i + k < s.length ∧ okb (bt s i) k (bt s (i + k)) = true
    · have ih := firstBad_spec s i n (k + 1) (by omega)
      rw [firstBad_on h h1.1 h1.2]
      refine ⟨by omega, ih.2.1, fun j hj hj2 => ?_, ih.2.2.2⟩
      rcases Nat.lt_or_ge k j with h2 | h2
      · exact ih.2.2.1 j h2 hj2
      · obtain rfl : j = k := by omega
        exact h1
    · rw [firstBad_here h h1]
      exact ⟨Nat.le_refl _, hk, fun j hj hj2 => absurd hj2 (by omega), fun _ => h1⟩
  · rw [firstBad_end (by omega)]
    obtain rfl : n = k := by omega
    exact ⟨Nat.le_refl _, Nat.le_refl _, fun j hj hj2 => absurd hj2 (by omega), fun h => absurd h (by omega)⟩
termination_by n - k
theorem firstBad_eq {s : List UInt8} {i n k m : Nat} (hkm : k ≤ m) (hmn : m ≤ n) (h : ∀ j, k ≤ j → j < m → i + j < s.length ∧ okb (bt s i) j (bt s (i + j)) = true)
    (h2 : m < n → ¬ (i + m < s.length ∧ okb (bt s i) m (bt s (i + m)) = true)) : firstBad s i n k = m := by
  by_cases hk : k = m
  · subst hk
    by_cases hn : k < n
    · exact firstBad_here hn (h2 hn)
    · rw [firstBad_end (by omega)]; omega
  · have hkn : k < n := by omega
    have := h k (Nat.le_refl _) (by omega)
    rw [firstBad_on hkn this.1 this.2]
    exact firstBad_eq (by omega) hmn (fun j hj hj2 => h j (by omega) hj2) h2
termination_by m - k

/-- The first byte's part of a number. -/
def c0 (c n : Nat) : Nat := if n = 2 then c - 192 else if n = 3 then c - 224 else if n = 4 then c - 240 else c
/-- The number of the first k bytes behind the first one. -/
def codeK (s : List UInt8) (i n : Nat) : Nat → Nat
  | 0 => c0 (bt s i) n
  | k + 1 => 64 * codeK s i n k + bt s (i + (k + 1)) - 128
def code (s : List UInt8) (i n : Nat) : Nat := codeK s i n (n - 1)

/-- The character whose form begins at a byte: its number, how many bytes it has; else what is wrong (30, 31), and where. -/
structure Ch where
  r : Nat
  n : Nat
  e : Nat
  p : Nat
deriving DecidableEq
def chAt (s : List UInt8) (i : Nat) : Ch :=
  if wd (bt s i) = 0 then ⟨0, 0, 30, i⟩
  else if firstBad s i (wd (bt s i)) 1 = wd (bt s i) then ⟨code s i (wd (bt s i)), wd (bt s i), 0, 0⟩
  else if i + firstBad s i (wd (bt s i)) 1 < s.length then ⟨0, 0, 30, i + firstBad s i (wd (bt s i)) 1⟩ else ⟨0, 0, 31, s.length⟩

theorem chAt_none {s : List UInt8} {i : Nat} (h : wd (bt s i) = 0) : chAt s i = ⟨0, 0, 30, i⟩ := by unfold chAt; rw [if_pos h]
theorem chAt_ok {s : List UInt8} {i n : Nat} (hn : wd (bt s i) = n) (h0 : 0 < n) (h : firstBad s i n 1 = n) : chAt s i = ⟨code s i n, n, 0, 0⟩ := by
  unfold chAt; rw [hn, if_neg (by omega), if_pos h]
theorem chAt_byte {s : List UInt8} {i n k : Nat} (hn : wd (bt s i) = n) (h0 : 0 < n) (h : firstBad s i n 1 = k) (hk : k < n) (hl : i + k < s.length) : chAt s i = ⟨0, 0, 30, i + k⟩ := by
  unfold chAt; rw [hn, if_neg (by omega), h, if_neg (by omega), if_pos hl]
theorem chAt_cut {s : List UInt8} {i n k : Nat} (hn : wd (bt s i) = n) (h0 : 0 < n) (h : firstBad s i n 1 = k) (hk : k < n) (hl : ¬ i + k < s.length) : chAt s i = ⟨0, 0, 31, s.length⟩ := by
  unfold chAt; rw [hn, if_neg (by omega), h, if_neg (by omega), if_neg hl]
/-- What a character that is told is. -/
theorem chAt_spec (s : List UInt8) (i : Nat) : ((chAt s i).e = 0 ∧ 0 < (chAt s i).n ∧ (chAt s i).n = wd (bt s i) ∧ (chAt s i).p = 0 ∧ (chAt s i).r = code s i (chAt s i).n ∧ (∀ j, 1 ≤ j → j < (chAt s i).n → i + j < s.length ∧ okb (bt s i) j (bt s (i + j)) = true)) ∨
    ((chAt s i).e = 30 ∧ (chAt s i).n = 0 ∧ (chAt s i).r = 0 ∧ i ≤ (chAt s i).p ∧ (i < s.length → (chAt s i).p < s.length)) ∨ ((chAt s i).e = 31 ∧ (chAt s i).n = 0 ∧ (chAt s i).r = 0 ∧ (chAt s i).p = s.length) := by
  unfold chAt
  by_cases h0 : wd (bt s i) = 0
  · rw [if_pos h0]; exact .inr (.inl ⟨rfl, rfl, rfl, Nat.le_refl _, id⟩)
  · rw [if_neg h0]
    have hs := firstBad_spec s i (wd (bt s i)) 1 (by omega)
    by_cases h1 : firstBad s i (wd (bt s i)) 1 = wd (bt s i)
    · rw [if_pos h1]
      rw [h1] at hs
      exact .inl ⟨rfl, by show 0 < wd _; omega, rfl, rfl, rfl, fun j hj hj2 => hs.2.2.1 j hj hj2⟩
    · rw [if_neg h1]
      by_cases h2 : i + firstBad s i (wd (bt s i)) 1 < s.length
      · rw [if_pos h2]; exact .inr (.inl ⟨rfl, rfl, rfl, Nat.le_add_right _ _, fun _ => h2⟩)
      · rw [if_neg h2]; exact .inr (.inr ⟨rfl, rfl, rfl, rfl⟩)
theorem chAt_len {s : List UInt8} {i : Nat} (hi : i < s.length) : i + (chAt s i).n ≤ s.length := by
  rcases chAt_spec s i with ⟨_, h1, _, _, _, h2⟩ | ⟨_, h, _⟩ | ⟨_, h, _⟩
  · by_cases hn : (chAt s i).n = 1
    · omega
    · have := h2 ((chAt s i).n - 1) (by omega) (by omega); omega
  · omega
  · omega

/-- What is wrong with bytes from a place on, and where; 0, 0: nothing is. -/
def wrongF (s : List UInt8) (i : Nat) : Nat × Nat :=
  if _h : i < s.length then (if (chAt s i).e = 0 then wrongF s (i + ((chAt s i).n - 1) + 1) else ((chAt s i).e, (chAt s i).p)) else (0, 0)
termination_by s.length - i
def wrong (s : List UInt8) : Nat × Nat := wrongF s 0
def right (s : List UInt8) : Bool := decide ((wrong s).1 = 0)
theorem wrongF_end {s : List UInt8} {i : Nat} (h : s.length ≤ i) : wrongF s i = (0, 0) := by rw [wrongF, dif_neg (by omega)]
theorem wrongF_on {s : List UInt8} {i : Nat} (h : i < s.length) (he : (chAt s i).e = 0) : wrongF s i = wrongF s (i + (chAt s i).n) := by
  rw [wrongF, dif_pos h, if_pos he]
  congr 1
  rcases chAt_spec s i with ⟨_, h1, _⟩ | ⟨h1, _⟩ | ⟨h1, _⟩ <;> omega
theorem wrongF_bad {s : List UInt8} {i : Nat} (h : i < s.length) (he : (chAt s i).e ≠ 0) : wrongF s i = ((chAt s i).e, (chAt s i).p) := by
  rw [wrongF, dif_pos h, if_neg he]
/-- The characters from a place on, with their places. -/
def runesF (s : List UInt8) (i : Nat) : List (Nat × Nat) :=
  if _h : i < s.length then (if (chAt s i).e = 0 then (i, (chAt s i).r) :: runesF s (i + ((chAt s i).n - 1) + 1) else []) else []
termination_by s.length - i
theorem runesF_end {s : List UInt8} {i : Nat} (h : s.length ≤ i) : runesF s i = [] := by rw [runesF, dif_neg (by omega)]
theorem runesF_on {s : List UInt8} {i : Nat} (h : i < s.length) (he : (chAt s i).e = 0) : runesF s i = (i, (chAt s i).r) :: runesF s (i + (chAt s i).n) := by
  rw [runesF, dif_pos h, if_pos he]
  congr 2
  rcases chAt_spec s i with ⟨_, h1, _⟩ | ⟨h1, _⟩ | ⟨h1, _⟩ <;> omega
theorem runesF_bad {s : List UInt8} {i : Nat} (h : i < s.length) (he : (chAt s i).e ≠ 0) : runesF s i = [] := by
  rw [runesF, dif_pos h, if_neg he]
/-- How many bytes at the end belong to a form that isn't whole. -/
def heldF (s : List UInt8) (i : Nat) : Nat :=
  if _h : i < s.length then (if (chAt s i).e = 0 then heldF s (i + ((chAt s i).n - 1) + 1) else s.length - i) else 0
termination_by s.length - i
theorem heldF_end {s : List UInt8} {i : Nat} (h : s.length ≤ i) : heldF s i = 0 := by rw [heldF, dif_neg (by omega)]
theorem heldF_on {s : List UInt8} {i : Nat} (h : i < s.length) (he : (chAt s i).e = 0) : heldF s i = heldF s (i + (chAt s i).n) := by
  rw [heldF, dif_pos h, if_pos he]
  congr 1
  rcases chAt_spec s i with ⟨_, h1, _⟩ | ⟨h1, _⟩ | ⟨h1, _⟩ <;> omega
theorem heldF_bad {s : List UInt8} {i : Nat} (h : i < s.length) (he : (chAt s i).e ≠ 0) : heldF s i = s.length - i := by
  rw [heldF, dif_pos h, if_neg he]
end Go.Proofs.Ytmdgopclcdmenaa
