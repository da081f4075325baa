/- Plain: bytes as letters and letters as bytes, by numbers. No program in sight. -/
import Derived.Test.YtdlplmflimleaaaNum
namespace Go.Proofs.Ytdlplmflimleaaa

/-- The number of bytes. -/
def nat8 (bs : List UInt8) : Nat := num 256 (bs.map UInt8.toNat)
/-- How many letters of k bits n bytes have. -/
def lettersOf (k n : Nat) : Nat := (8 * n + k - 1) / k
/-- All bits, with noughts behind them up to a whole letter, as a number. -/
def padded (k : Nat) (bs : List UInt8) : Nat := nat8 bs * 2 ^ (k * lettersOf k bs.length - 8 * bs.length)
/-- The letters' numbers. -/
def lnums (k : Nat) (bs : List UInt8) : List Nat := digs (2 ^ k) (lettersOf k bs.length) (padded k bs)

theorem nat8_lt (bs : List UInt8) : nat8 bs < 256 ^ bs.length := by
  have := num_lt 256 (bs.map UInt8.toNat) (by intro d hd; simp at hd; obtain ⟨b, _, rfl⟩ := hd; exact UInt8.toNat_lt b)
  simpa [nat8] using this
theorem nat8_snoc (bs : List UInt8) (b : UInt8) : nat8 (bs ++ [b]) = nat8 bs * 256 + b.toNat := by simp [nat8, num_snoc]
theorem nat8_get (bs : List UInt8) (i : Nat) (h : i < bs.length) : bs[i].toNat = nat8 bs / 256 ^ (bs.length - 1 - i) % 256 := by
  have h1 := digs_num 256 (bs.map UInt8.toNat) (by intro d hd; simp at hd; obtain ⟨b, _, rfl⟩ := hd; exact UInt8.toNat_lt b)
  have h2 := digs_get 256 bs.length (nat8 bs) i h
  rw [show bs.length = (bs.map UInt8.toNat).length by simp, show nat8 bs = num 256 (bs.map UInt8.toNat) from rfl, h1] at h2
  simp at h2
  have h3 : (bs.map UInt8.toNat)[i]? = some bs[i].toNat := by simp [h]
  simp [h] at h2
  simpa [nat8] using h2

theorem pow256 (n : Nat) : 256 ^ n = 2 ^ (8 * n) := by rw [Nat.pow_mul]

/-- A bit within a field of bits. -/
theorem field_bit (X s t : Nat) (h : s < t) : X % 2 ^ t / 2 ^ s % 2 = X / 2 ^ s % 2 := by
  have e : 2 ^ t = 2 ^ s * (2 * 2 ^ (t - s - 1)) := by
    rw [← Nat.pow_succ', ← Nat.pow_add]; congr 1; omega
  rw [e, Nat.mod_mul_right_div_self, Nat.mod_mul_right_mod]

theorem shift_bit (X c d : Nat) (h : c ≤ d) : X * 2 ^ c / 2 ^ d = X / 2 ^ (d - c) := by
  have e : 2 ^ d = 2 ^ (d - c) * 2 ^ c := by rw [← Nat.pow_add]; congr 1; omega
  rw [e, Nat.mul_div_mul_right _ _ (Nat.two_pow_pos c)]

theorem shift_low (X c d : Nat) (h : d < c) : X * 2 ^ c / 2 ^ d % 2 = 0 := by
  have e : 2 ^ c = 2 * 2 ^ (c - d - 1) * 2 ^ d := by rw [← Nat.pow_succ', ← Nat.pow_add]; congr 1; omega
  rw [e, ← Nat.mul_assoc, Nat.mul_div_cancel _ (Nat.two_pow_pos d), Nat.mul_left_comm]
  simp

theorem lettersOf_ge (k n : Nat) (hk : 0 < k) : 8 * n ≤ k * lettersOf k n ∧ k * lettersOf k n < 8 * n + k := by
  unfold lettersOf
  have h1 := Nat.div_add_mod (8 * n + k - 1) k
  have h2 := Nat.mod_lt (8 * n + k - 1) hk
  omega

/-- A bit of the padded number is the bit of the bytes. -/
theorem padded_bit (k : Nat) (hk : 0 < k) (bs : List UInt8) (p : Nat) (hp : p < k * lettersOf k bs.length) :
    padded k bs / 2 ^ (k * lettersOf k bs.length - 1 - p) % 2 = if h : p / 8 < bs.length then bs[p / 8].toNat / 2 ^ (7 - p % 8) % 2 else 0 := by
  have hl := lettersOf_ge k bs.length hk
  unfold padded
  by_cases h : p / 8 < bs.length
  · rw [dif_pos h, nat8_get bs (p / 8) h, shift_bit _ _ _ (by omega)]
    rw [show (256 : Nat) = 2 ^ 8 from rfl, ← Nat.pow_mul, field_bit _ _ 8 (by omega), Nat.div_div_eq_div_mul, ← Nat.pow_add]
    congr 3
    omega
  · rw [dif_neg h, shift_low _ _ _ (by omega)]

/-- One bit more of a letter. -/
theorem letter_step (Z M j : Nat) (hM : 0 < M) : Z / 2 ^ (M - 1) % 2 ^ (j + 1) = 2 * (Z / 2 ^ M % 2 ^ j) + Z / 2 ^ (M - 1) % 2 := by
  have e : Z / 2 ^ M = Z / 2 ^ (M - 1) / 2 := by
    rw [Nat.div_div_eq_div_mul, ← Nat.pow_succ]; congr 2; omega
  rw [e, Nat.pow_succ, Nat.mul_comm (2 ^ j) 2, Nat.mod_mul]
  omega

/-- A writer that stands at m bits of the number r, and takes the bytes bs: all bits as a number; how many they are. -/
def wV (r : Nat) (bs : List UInt8) : Nat := r * 256 ^ bs.length + nat8 bs
def wT (m : Nat) (bs : List UInt8) : Nat := m + 8 * bs.length
/-- The letters' numbers that come of it, and how it stands behind. -/
def wE (k r m : Nat) (bs : List UInt8) : List Nat := digs (2 ^ k) (wT m bs / k) (wV r bs / 2 ^ (wT m bs % k))
def wR (k r m : Nat) (bs : List UInt8) : Nat := wV r bs % 2 ^ (wT m bs % k)
def wM (k m : Nat) (bs : List UInt8) : Nat := wT m bs % k

theorem wE_length (k r m : Nat) (bs : List UInt8) : (wE k r m bs).length = wT m bs / k := digs_length _ _ _
theorem wE_nil (k r m : Nat) (hm : m < k) : wE k r m [] = [] := by simp [wE, wT, Nat.div_eq_of_lt hm, digs]
theorem wR_nil (k r m : Nat) (hm : m < k) (hr : r < 2 ^ m) : wR k r m [] = r := by
  simp [wR, wT, wV, nat8, num, Nat.mod_eq_of_lt hm, Nat.mod_eq_of_lt hr]
theorem wM_nil (k m : Nat) (hm : m < k) : wM k m [] = m := by simp [wM, wT, Nat.mod_eq_of_lt hm]
theorem wM_lt (k m : Nat) (bs : List UInt8) (hk : 0 < k) : wM k m bs < k := Nat.mod_lt _ hk
theorem wR_lt (k r m : Nat) (bs : List UInt8) : wR k r m bs < 2 ^ wM k m bs := Nat.mod_lt _ (Nat.two_pow_pos _)

/-- One byte more. R: the rest shifted up by it; T: how many bits these are. -/
theorem w_step (k r m : Nat) (bs : List UInt8) (x : UInt8) (hk : 0 < k) (R T : Nat) (hR : R = wR k r m bs * 256 + x.toNat) (hT : T = wM k m bs + 8) :
    R < 2 ^ T ∧ wE k r m (bs ++ [x]) = wE k r m bs ++ digs (2 ^ k) (T / k) (R / 2 ^ (T % k)) ∧ wR k r m (bs ++ [x]) = R % 2 ^ (T % k) ∧ wM k m (bs ++ [x]) = T % k := by
  have hx : x.toNat < 256 := UInt8.toNat_lt x
  have hT1 : wT m (bs ++ [x]) = wT m bs + 8 := by simp [wT]; omega
  have hV1 : wV r (bs ++ [x]) = wV r bs * 256 + x.toNat := by
    unfold wV; rw [nat8_snoc, List.length_append, List.length_singleton, Nat.pow_succ, Nat.add_mul, Nat.mul_assoc]; omega
  have hdm := Nat.div_add_mod (wT m bs) k
  have hmod : wT m (bs ++ [x]) % k = T % k := by
    rw [hT1, hT]; unfold wM; rw [Nat.mod_add_mod]
  have hdiv : wT m (bs ++ [x]) / k = wT m bs / k + T / k := by
    rw [hT1, hT]; unfold wM
    conv => lhs; rw [← hdm]
    rw [Nat.add_assoc, Nat.mul_add_div hk]
  have hRV : R = wV r (bs ++ [x]) % 2 ^ T := by
    rw [hV1, hT, Nat.pow_add, Nat.mul_comm (2 ^ wM k m bs), show (2 : Nat) ^ 8 = 256 from rfl, Nat.mod_mul]
    have e1 : (wV r bs * 256 + x.toNat) % 256 = x.toNat := by omega
    have e2 : (wV r bs * 256 + x.toNat) / 256 = wV r bs := by omega
    rw [e1, e2, hR]
    unfold wR wM
    omega
  have hlt : R < 2 ^ T := by rw [hRV]; exact Nat.mod_lt _ (Nat.two_pow_pos _)
  have hTd := Nat.div_add_mod T k
  refine ⟨hlt, ?_, ?_, ?_⟩
  · unfold wE
    rw [hdiv, hmod, digs_add]
    congr 1
    · congr 1
      rw [Nat.div_div_eq_div_mul, ← Nat.pow_mul, ← Nat.pow_add, show T % k + k * (T / k) = T by omega, hV1, hT, Nat.pow_add, Nat.mul_comm (2 ^ wM k m bs), show (2 : Nat) ^ 8 = 256 from rfl, ← Nat.div_div_eq_div_mul]
      have e2 : (wV r bs * 256 + x.toNat) / 256 = wV r bs := by omega
      rw [e2]; rfl
    · rw [← digs_mod (2 ^ k) (T / k) (wV r (bs ++ [x]) / 2 ^ (T % k)), hRV]
      congr 1
      have e : 2 ^ T = 2 ^ (T % k) * (2 ^ k) ^ (T / k) := by rw [← Nat.pow_mul, ← Nat.pow_add]; congr 1; omega
      rw [e, Nat.mod_mul_right_div_self]
  · unfold wR
    rw [hmod, hRV]
    have e : 2 ^ T = 2 ^ (T % k) * 2 ^ (T - T % k) := by rw [← Nat.pow_add]; congr 1; have := Nat.mod_le T k; omega
    rw [e, Nat.mod_mul_right_mod]
  · unfold wM; rw [hmod]

/-- One letter more of those that a byte brings. -/
theorem w_letter (k R T j : Nat) (hk : (j + 1) * k ≤ T) : digs (2 ^ k) (j + 1) (R / 2 ^ (T - (j + 1) * k)) = digs (2 ^ k) j (R / 2 ^ (T - j * k)) ++ [R / 2 ^ (T - (j + 1) * k) % 2 ^ k] := by
  rw [digs, Nat.div_div_eq_div_mul, ← Nat.pow_add]
  congr 4
  rw [Nat.succ_mul] at hk ⊢
  omega

/-- All letters of bytes: those that are sure, and the last one. -/
theorem wE_all (k : Nat) (hk : 0 < k) (bs : List UInt8) :
    lnums k bs = wE k 0 0 bs ++ (if 0 < wM k 0 bs then [wR k 0 0 bs * 2 ^ (k - wM k 0 bs)] else []) := by
  have hV : wV 0 bs = nat8 bs := by simp [wV]
  have hT : wT 0 bs = 8 * bs.length := by simp [wT]
  have hd := Nat.div_add_mod (8 * bs.length) k
  have hm := Nat.mod_lt (8 * bs.length) hk
  unfold lnums padded wE wR wM
  rw [hV, hT]
  by_cases h0 : 8 * bs.length % k = 0
  · have hL : lettersOf k bs.length = 8 * bs.length / k := by
      unfold lettersOf
      have hz : (k - 1) / k = 0 := Nat.div_eq_of_lt (by omega)
      have e : 8 * bs.length + k - 1 = k * (8 * bs.length / k) + (k - 1) := by omega
      rw [e, Nat.mul_add_div hk, hz, Nat.add_zero]
    rw [if_neg (by omega), List.append_nil, hL, h0, show k * (8 * bs.length / k) - 8 * bs.length = 0 by omega]
    simp
  · have hL : lettersOf k bs.length = 8 * bs.length / k + 1 := by
      unfold lettersOf
      have e : 8 * bs.length + k - 1 = k * (8 * bs.length / k + 1) + (8 * bs.length % k - 1) := by rw [Nat.mul_add]; omega
      have hz : (8 * bs.length % k - 1) / k = 0 := Nat.div_eq_of_lt (by omega)
      rw [e, Nat.mul_add_div hk, hz, Nat.add_zero]
    rw [if_pos (by omega), hL, digs, show k * (8 * bs.length / k + 1) - 8 * bs.length = k - 8 * bs.length % k by rw [Nat.mul_add]; omega]
    generalize 8 * bs.length % k = t at *
    have e2 : 2 ^ k = 2 ^ t * 2 ^ (k - t) := by rw [← Nat.pow_add]; congr 1; omega
    congr 1
    · congr 1
      rw [e2, Nat.mul_div_mul_right _ _ (Nat.two_pow_pos _)]
    · rw [e2, Nat.mul_mod_mul_right]
end Go.Proofs.Ytdlplmflimleaaa
