/- Plain: letters read as bytes; what is written is read, and what is read is written so. No program in sight. -/
import Derived.Test.YtdlplmflimleaaaBaseO
namespace Go.Proofs.Ytdlplmflimleaaa

/-- A digit of p bits more comes into a number of T bits that is told in digits of q bits. -/
theorem feed_step (p q V T x : Nat) (hq : 0 < q) (hx : x < 2 ^ p) (R M : Nat) (hR : R = V % 2 ^ (T % q) * 2 ^ p + x) (hM : M = T % q + p) :
    R < 2 ^ M ∧ digs (2 ^ q) ((T + p) / q) ((V * 2 ^ p + x) / 2 ^ ((T + p) % q)) = digs (2 ^ q) (T / q) (V / 2 ^ (T % q)) ++ digs (2 ^ q) (M / q) (R / 2 ^ (M % q)) ∧
      (V * 2 ^ p + x) % 2 ^ ((T + p) % q) = R % 2 ^ (M % q) ∧ (T + p) % q = M % q := by
  have hp : 0 < 2 ^ p := Nat.two_pow_pos p
  have hdm := Nat.div_add_mod T q
  have hmod : (T + p) % q = M % q := by rw [hM, Nat.mod_add_mod]
  have hdiv : (T + p) / q = T / q + M / q := by
    rw [hM]
    conv => lhs; rw [← hdm]
    rw [Nat.add_assoc, Nat.mul_add_div hq]
  have e1 : (V * 2 ^ p + x) % 2 ^ p = x := by rw [Nat.mul_add_mod_self_right, Nat.mod_eq_of_lt hx]
  have e2 : (V * 2 ^ p + x) / 2 ^ p = V := by rw [Nat.add_comm, Nat.add_mul_div_right _ _ hp, Nat.div_eq_of_lt hx, Nat.zero_add]
  have hRV : R = (V * 2 ^ p + x) % 2 ^ M := by
    rw [hM, Nat.pow_add, Nat.mul_comm (2 ^ (T % q)), Nat.mod_mul, e1, e2, hR, Nat.mul_comm, Nat.add_comm]
  have hlt : R < 2 ^ M := by rw [hRV]; exact Nat.mod_lt _ (Nat.two_pow_pos _)
  have hTd := Nat.div_add_mod M q
  refine ⟨hlt, ?_, ?_, hmod⟩
  · rw [hdiv, hmod, digs_add]
    congr 1
    · congr 1
      rw [Nat.div_div_eq_div_mul, ← Nat.pow_mul, ← Nat.pow_add, show M % q + q * (M / q) = M by omega, hM, Nat.pow_add, Nat.mul_comm (2 ^ (T % q)), ← Nat.div_div_eq_div_mul, e2]
    · rw [← digs_mod (2 ^ q) (M / q) ((V * 2 ^ p + x) / 2 ^ (M % q)), hRV]
      congr 1
      have e : 2 ^ M = 2 ^ (M % q) * (2 ^ q) ^ (M / q) := by rw [← Nat.pow_mul, ← Nat.pow_add]; congr 1; omega
      rw [e, Nat.mod_mul_right_div_self]
  · rw [hmod, hRV]
    have e : 2 ^ M = 2 ^ (M % q) * 2 ^ (M - M % q) := by rw [← Nat.pow_add]; congr 1; have := Nat.mod_le M q; omega
    rw [e, Nat.mod_mul_right_mod]

/-- A bit more in a row of bytes. -/
theorem digs_set (n : Nat) : ∀ (Y s : Nat), s < 8 * n → Y % 2 ^ (s + 1) = 0 →
    digs 256 n (Y + 2 ^ s) = (digs 256 n Y).set (n - 1 - s / 8) (((digs 256 n Y).getD (n - 1 - s / 8) 0) + 2 ^ (s % 8)) := by
  induction n with
  | zero => intro Y s h; omega
  | succ n ih =>
    intro Y s hs hY
    rw [digs, digs]
    have hlen := digs_length 256 n (Y / 256)
    by_cases h8 : s < 8
    · have e0 : s / 8 = 0 := by omega
      have e1 : s % 8 = s := by omega
      have h9 : s = 0 ∨ s = 1 ∨ s = 2 ∨ s = 3 ∨ s = 4 ∨ s = 5 ∨ s = 6 ∨ s = 7 := by omega
      have hd : (Y + 2 ^ s) / 256 = Y / 256 ∧ (Y + 2 ^ s) % 256 = Y % 256 + 2 ^ s := by
        rcases h9 with rfl | rfl | rfl | rfl | rfl | rfl | rfl | rfl <;> simp at hY ⊢ <;> omega
      rw [hd.1, hd.2, e0, e1, Nat.sub_zero, Nat.add_sub_cancel]
      rw [List.set_append_right _ _ (by omega), hlen, Nat.sub_self]
      simp [List.getD, hlen]
    · have e3 : 2 ^ s = 256 * 2 ^ (s - 8) := by rw [show (256 : Nat) = 2 ^ 8 from rfl, ← Nat.pow_add]; congr 1; omega
      have e4 : 2 ^ (s + 1) = 256 * 2 ^ (s - 8 + 1) := by rw [show (256 : Nat) = 2 ^ 8 from rfl, ← Nat.pow_add]; congr 1; omega
      have hY2 : Y / 256 % 2 ^ (s - 8 + 1) = 0 := by
        rw [e4] at hY
        rw [Nat.mod_mul] at hY
        have : 256 * (Y / 256 % 2 ^ (s - 8 + 1)) = 0 := by omega
        omega
      have hd : (Y + 2 ^ s) / 256 = Y / 256 + 2 ^ (s - 8) := by rw [e3]; omega
      have hm : (Y + 2 ^ s) % 256 = Y % 256 := by rw [e3]; omega
      have hi : n + 1 - 1 - s / 8 = n - 1 - (s - 8) / 8 := by omega
      have hil : n - 1 - (s - 8) / 8 < n := by omega
      rw [hd, hm, ih (Y / 256) (s - 8) (by omega) hY2, hi, List.set_append_left _ _ (by rw [hlen]; exact hil)]
      rw [show (s - 8) % 8 = s % 8 by omega]
      simp only [List.getD]
      rw [List.getElem?_append_left (by rw [hlen]; exact hil)]

/-- The letters' numbers; the number that they are; how many bits. -/
def nms (a : Int) (s : List UInt8) : List Nat := s.map fun c => (Nm a c).toNat
def rU (a : Int) (k : Nat) (s : List UInt8) : Nat := num (2 ^ k) (nms a s)
def rE (a : Int) (k : Nat) (s : List UInt8) : List Nat := digs 256 (k * s.length / 8) (rU a k s / 2 ^ (k * s.length % 8))
def rR (a : Int) (k : Nat) (s : List UInt8) : Nat := rU a k s % 2 ^ (k * s.length % 8)
/-- The place of the first letter that is none; all are letters. -/
def badAt (a : Int) (s : List UInt8) : Nat := s.findIdx fun c => decide (Nm a c < 0)
/-- What is read: the bytes, the number of what is wrong (0: nothing), the place. -/
def rd (a : Int) (k : Nat) (s : List UInt8) : List UInt8 × Nat × Nat :=
  if badAt a s < s.length then ([], 60, badAt a s)
  else if k ≤ k * s.length % 8 then ([], 61, s.length)
  else if rR a k s ≠ 0 then ([], 62, s.length - 1)
  else ((rE a k s).map UInt8.ofNat, 0, 0)

theorem nm_back (a : Int) (c : UInt8) (h : 0 ≤ Nm a c) : (Nm a c).toNat < (LL a).length ∧ Lat a (Nm a c).toNat = c := by
  unfold Nm at h ⊢
  split at h
  · rename_i hlt
    rw [if_pos hlt, Int.toNat_natCast]
    exact ⟨hlt, by rw [Lat_get a _ hlt]; exact List.getElem_idxOf hlt⟩
  · omega
theorem LL_k (a : Int) (k : Nat) (hk : Bt a = k) (h0 : k = 4 ∨ k = 5 ∨ k = 6) : (LL a).length = 2 ^ k := by
  rw [← LL_size, ltr_size a k hk (by omega)]; simp
theorem nm_lat1 : ∀ i, i < 16 → Nm 1 (Lat 1 i) = (i : Nat) := by decide +kernel
theorem nm_lat2 : ∀ i, i < 32 → Nm 2 (Lat 2 i) = (i : Nat) := by decide +kernel
theorem nm_lat3 : ∀ i, i < 64 → Nm 3 (Lat 3 i) = (i : Nat) := by decide +kernel
theorem nm_lat (a : Int) (k : Nat) (hk : Bt a = k) (h0 : k = 4 ∨ k = 5 ∨ k = 6) (i : Nat) (hi : i < 2 ^ k) : Nm a (Lat a i) = (i : Nat) := by
  rcases Bt_cases a with ⟨rfl, h⟩ | ⟨rfl, h⟩ | ⟨rfl, h⟩ | ⟨h1, h2, h3, h, hl⟩
  · obtain rfl : k = 4 := by omega
    exact nm_lat1 i hi
  · obtain rfl : k = 5 := by omega
    exact nm_lat2 i hi
  · obtain rfl : k = 6 := by omega
    exact nm_lat3 i hi
  · omega

theorem badAt_all (a : Int) (s : List UInt8) (h : ¬ badAt a s < s.length) : ∀ c ∈ s, 0 ≤ Nm a c := by
  intro c hc
  have := List.findIdx_eq_length.1 (show s.findIdx (fun c => decide (Nm a c < 0)) = s.length by
    have := List.findIdx_le_length (xs := s) (p := fun c => decide (Nm a c < 0)); unfold badAt at h; omega) c hc
  simpa using this
theorem badAt_none (a : Int) (s : List UInt8) (h : ∀ c ∈ s, 0 ≤ Nm a c) : badAt a s = s.length := by
  unfold badAt
  rw [List.findIdx_eq_length]
  intro c hc
  have := h c hc
  simpa using this
theorem nms_lt (a : Int) (k : Nat) (hk : Bt a = k) (h0 : k = 4 ∨ k = 5 ∨ k = 6) (s : List UInt8) (h : ∀ c ∈ s, 0 ≤ Nm a c) : ∀ d ∈ nms a s, d < 2 ^ k := by
  intro d hd
  simp [nms] at hd
  obtain ⟨c, hc, rfl⟩ := hd
  have := (nm_back a c (h c hc)).1
  rwa [LL_k a k hk h0] at this
theorem rU_lt (a : Int) (k : Nat) (hk : Bt a = k) (h0 : k = 4 ∨ k = 5 ∨ k = 6) (s : List UInt8) (h : ∀ c ∈ s, 0 ≤ Nm a c) : rU a k s < 2 ^ (k * s.length) := by
  have := num_lt (2 ^ k) (nms a s) (nms_lt a k hk h0 s h)
  rw [← Nat.pow_mul] at this
  simpa [rU, nms] using this

/-- What is read is written so. -/
theorem rd_lets (a : Int) (k : Nat) (hk : Bt a = k) (h0 : k = 4 ∨ k = 5 ∨ k = 6) (s : List UInt8) (h : (rd a k s).2.1 = 0) : lets a k (rd a k s).1 = s := by
  unfold rd at h ⊢
  split at h
  · cases h
  rename_i h1
  split at h
  · cases h
  rename_i h2
  split at h
  · cases h
  rename_i h3
  rw [if_neg h1, if_neg h2, if_neg h3]
  have hall := badAt_all a s h1
  have hu := rU_lt a k hk h0 s hall
  have hdm := Nat.div_add_mod (k * s.length) 8
  have hr : rU a k s % 2 ^ (k * s.length % 8) = 0 := by simpa [rR] using h3
  have hlb : ((rE a k s).map UInt8.ofNat).length = k * s.length / 8 := by simp [rE, digs_length]
  have hn8 : nat8 ((rE a k s).map UInt8.ofNat) = rU a k s / 2 ^ (k * s.length % 8) := by
    unfold nat8
    have e : ((rE a k s).map UInt8.ofNat).map UInt8.toNat = rE a k s := by
      rw [List.map_map]
      conv => rhs; rw [← List.map_id (rE a k s)]
      refine List.map_congr_left fun d hd => ?_
      have := digs_lt 256 _ _ (by omega) d hd
      simpa using this
    rw [e]
    unfold rE
    rw [num_digs]
    apply Nat.mod_eq_of_lt
    rw [Nat.div_lt_iff_lt_mul (Nat.two_pow_pos _), pow256, ← Nat.pow_add, show 8 * (k * s.length / 8) + k * s.length % 8 = k * s.length by omega]
    exact hu
  have hL : lettersOf k (k * s.length / 8) = s.length := by
    unfold lettersOf
    rcases h0 with rfl | rfl | rfl <;> omega
  show (lnums k _).map (Lat a) = s
  unfold lnums padded
  rw [hlb, hn8, hL]
  have e2 : rU a k s / 2 ^ (k * s.length % 8) * 2 ^ (k * s.length - 8 * (k * s.length / 8)) = rU a k s := by
    rw [show k * s.length - 8 * (k * s.length / 8) = k * s.length % 8 by omega]
    have := Nat.div_add_mod (rU a k s) (2 ^ (k * s.length % 8))
    rw [hr, Nat.add_zero, Nat.mul_comm] at this
    exact this
  rw [e2]
  have e3 := digs_num (2 ^ k) (nms a s) (nms_lt a k hk h0 s hall)
  rw [show (nms a s).length = s.length by simp [nms]] at e3
  unfold rU
  rw [e3]
  unfold nms
  rw [List.map_map]
  conv => rhs; rw [← List.map_id s]
  exact List.map_congr_left fun c hc => (nm_back a c (hall c hc)).2

/-- What is written is read. -/
theorem lets_rd (a : Int) (k : Nat) (hk : Bt a = k) (h0 : k = 4 ∨ k = 5 ∨ k = 6) (b : List UInt8) : rd a k (lets a k b) = (b, 0, 0) := by
  have hk0 : 0 < k := by omega
  have hlt : ∀ d ∈ lnums k b, d < 2 ^ k := digs_lt _ _ _ (Nat.two_pow_pos _)
  have hall : ∀ c ∈ lets a k b, 0 ≤ Nm a c := by
    intro c hc
    simp [lets] at hc
    obtain ⟨d, hd, rfl⟩ := hc
    rw [nm_lat a k hk h0 d (hlt d hd)]
    omega
  have hn : nms a (lets a k b) = lnums k b := by
    unfold nms lets
    rw [List.map_map]
    conv => rhs; rw [← List.map_id (lnums k b)]
    refine List.map_congr_left fun d hd => ?_
    show (Nm a (Lat a d)).toNat = d
    rw [nm_lat a k hk h0 d (hlt d hd)]; simp
  have hU : rU a k (lets a k b) = padded k b := by unfold rU; rw [hn, lnums_num k hk0]
  have hlen : (lets a k b).length = lettersOf k b.length := lets_length a k b
  have hg := lettersOf_ge k b.length hk0
  have e1 : k * lettersOf k b.length % 8 = k * lettersOf k b.length - 8 * b.length := by omega
  have e2 : k * lettersOf k b.length / 8 = b.length := by omega
  unfold rd
  rw [if_neg (by rw [badAt_none a _ hall]; omega), hlen, if_neg (by omega), if_neg]
  · unfold rE
    rw [hlen, hU, e1, e2]
    unfold padded
    rw [Nat.mul_div_cancel _ (Nat.two_pow_pos _)]
    have e3 := digs_num 256 (b.map UInt8.toNat) (by intro d hd; simp at hd; obtain ⟨x, _, rfl⟩ := hd; exact UInt8.toNat_lt x)
    rw [List.length_map] at e3
    unfold nat8
    rw [e3]
    congr 1
    rw [List.map_map]
    conv => rhs; rw [← List.map_id b]
    exact List.map_congr_left fun x _ => by simp
  · unfold rR
    rw [hlen, hU, e1]
    unfold padded
    rw [Nat.mul_mod_left]
    simp
end Go.Proofs.Ytdlplmflimleaaa
