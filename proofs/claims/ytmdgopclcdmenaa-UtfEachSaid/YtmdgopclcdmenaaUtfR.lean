/- Plain: the model's decoding and encoding of characters are the document's. No program in sight. -/
import Derived.Test.YtmdgopclcdmenaaUtfP
namespace Go.Proofs.Ytmdgopclcdmenaa

theorem get_bt (s : List UInt8) (i : Nat) (h : i < s.length) : ((⟨s.toArray⟩ : ByteArray).get! i).toNat = bt s i := by
  have : (⟨s.toArray⟩ : ByteArray).get! i = s[i] := by
    show (s.toArray)[i]! = _
    rw [getElem!_pos s.toArray i (by simpa using h)]
    simp
  rw [this, bt_get s i h]

theorem chAt_all {s : List UInt8} {i n : Nat} (hn : wd (bt s i) = n) (h0 : 0 < n) (h : ∀ j, 1 ≤ j → j < n → i + j < s.length ∧ okb (bt s i) j (bt s (i + j)) = true) : chAt s i = ⟨code s i n, n, 0, 0⟩ :=
  chAt_ok hn h0 (firstBad_eq (by omega) (Nat.le_refl _) h (fun h => absurd h (by omega)))

theorem code1 (s : List UInt8) (i : Nat) : code s i 1 = bt s i := rfl
theorem code2 (s : List UInt8) (i : Nat) : code s i 2 = 64 * (bt s i - 192) + bt s (i + 1) - 128 := rfl
theorem code3 (s : List UInt8) (i : Nat) : code s i 3 = 64 * (64 * (bt s i - 224) + bt s (i + 1) - 128) + bt s (i + 2) - 128 := rfl
theorem code4 (s : List UInt8) (i : Nat) : code s i 4 = 64 * (64 * (64 * (bt s i - 240) + bt s (i + 1) - 128) + bt s (i + 2) - 128) + bt s (i + 3) - 128 := rfl

theorem okb1 {c d : Nat} (h : okb c 1 d = true) : lo c ≤ d ∧ d ≤ hi c := by
  unfold okb at h; rw [if_pos rfl] at h; exact of_decide_eq_true h

/-- A number that is a character. -/
def Scal (r : Nat) : Prop := r < 0xD800 ∨ (0xE000 ≤ r ∧ r < 0x110000)
instance (r : Nat) : Decidable (Scal r) := by unfold Scal; infer_instance

/-- The four kinds of forms. -/
theorem ch_cases {s : List UInt8} {i : Nat} (he : (chAt s i).e = 0) :
    ((chAt s i).n = 1 ∧ (chAt s i).r = bt s i ∧ bt s i < 128) ∨
    ((chAt s i).n = 2 ∧ (chAt s i).r = 64 * (bt s i - 192) + (bt s (i + 1) - 128) ∧ i + 1 < s.length ∧ 194 ≤ bt s i ∧ bt s i < 224 ∧ 128 ≤ bt s (i + 1) ∧ bt s (i + 1) < 192) ∨
    ((chAt s i).n = 3 ∧ (chAt s i).r = 4096 * (bt s i - 224) + 64 * (bt s (i + 1) - 128) + (bt s (i + 2) - 128) ∧ i + 2 < s.length ∧ 224 ≤ bt s i ∧ bt s i < 240 ∧ lo (bt s i) ≤ bt s (i + 1) ∧ bt s (i + 1) ≤ hi (bt s i) ∧ 128 ≤ bt s (i + 1) ∧ bt s (i + 1) < 192 ∧ 128 ≤ bt s (i + 2) ∧ bt s (i + 2) < 192) ∨
    ((chAt s i).n = 4 ∧ (chAt s i).r = 262144 * (bt s i - 240) + 4096 * (bt s (i + 1) - 128) + 64 * (bt s (i + 2) - 128) + (bt s (i + 3) - 128) ∧ i + 3 < s.length ∧ 240 ≤ bt s i ∧ bt s i < 245 ∧ lo (bt s i) ≤ bt s (i + 1) ∧ bt s (i + 1) ≤ hi (bt s i) ∧ 128 ≤ bt s (i + 1) ∧ bt s (i + 1) < 192 ∧ 128 ≤ bt s (i + 2) ∧ bt s (i + 2) < 192 ∧ 128 ≤ bt s (i + 3) ∧ bt s (i + 3) < 192) := by
  rcases chAt_spec s i with ⟨_, h0, hn, _, hr, hall⟩ | ⟨h, _⟩ | ⟨h, _⟩
  · have hw : wd (bt s i) = 0 ∨ (wd (bt s i) = 1 ∧ bt s i < 128) ∨ (wd (bt s i) = 2 ∧ 194 ≤ bt s i ∧ bt s i < 224) ∨ (wd (bt s i) = 3 ∧ 224 ≤ bt s i ∧ bt s i < 240) ∨ (wd (bt s i) = 4 ∧ 240 ≤ bt s i ∧ bt s i < 245) := by
      unfold wd; (repeat' split) <;> omega
    rcases hw with h | ⟨h, hb⟩ | ⟨h, hb, hb2⟩ | ⟨h, hb, hb2⟩ | ⟨h, hb, hb2⟩
    · omega
    · rw [h] at hn; rw [hn] at hr
      exact .inl ⟨hn, by rw [hr, code1], hb⟩
    · rw [h] at hn; rw [hn] at hr hall
      have h1 := hall 1 (by omega) (by omega)
      have k1 := okb_cont h1.2
      rw [code2] at hr
      exact .inr (.inl ⟨hn, by omega, h1.1, hb, hb2, k1.1, by omega⟩)
    · rw [h] at hn; rw [hn] at hr hall
      have h1 := hall 1 (by omega) (by omega)
      have h2 := hall 2 (by omega) (by omega)
      have k1 := okb_cont h1.2
      have k2 := okb_cont h2.2
      have l1 := okb1 h1.2
      rw [code3] at hr
      exact .inr (.inr (.inl ⟨hn, by omega, h2.1, hb, hb2, l1.1, l1.2, k1.1, by omega, k2.1, by omega⟩))
    · rw [h] at hn; rw [hn] at hr hall
      have h1 := hall 1 (by omega) (by omega)
      have h2 := hall 2 (by omega) (by omega)
      have h3 := hall 3 (by omega) (by omega)
      have k1 := okb_cont h1.2
      have k2 := okb_cont h2.2
      have k3 := okb_cont h3.2
      have l1 := okb1 h1.2
      rw [code4] at hr
      exact .inr (.inr (.inr ⟨hn, by omega, h3.1, hb, hb2, l1.1, l1.2, k1.1, by omega, k2.1, by omega, k3.1, by omega⟩))
  · omega
  · omega

theorem lo_224 (c : Nat) : lo c = if c = 224 then 160 else if c = 240 then 144 else 128 := rfl
theorem hi_237 (c : Nat) : hi c = if c = 237 then 159 else if c = 244 then 143 else 191 := rfl

/-- A character that is told is one. -/
theorem ch_scal {s : List UInt8} {i : Nat} (he : (chAt s i).e = 0) : Scal (chAt s i).r ∧
    ((chAt s i).n = if (chAt s i).r < 128 then 1 else if (chAt s i).r < 2048 then 2 else if (chAt s i).r < 65536 then 3 else 4) := by
  rcases ch_cases he with ⟨hn, hr, h⟩ | ⟨hn, hr, _, h⟩ | ⟨hn, hr, _, h⟩ | ⟨hn, hr, _, h⟩
  · rw [hr, hn]; unfold Scal; exact ⟨by omega, by rw [if_pos h]⟩
  · rw [hr, hn]; unfold Scal; exact ⟨by omega, by rw [if_neg (by omega), if_pos (by omega)]⟩
  · rw [hr, hn]
    obtain ⟨h1, h2, h3, h4, h5, h6, h7, h8⟩ := h
    rw [lo_224] at h3
    rw [hi_237] at h4
    have h9 : 2048 ≤ 4096 * (bt s i - 224) + 64 * (bt s (i + 1) - 128) + (bt s (i + 2) - 128) := by
      by_cases e : bt s i = 224
      · rw [if_pos e] at h3; omega
      · omega
    unfold Scal
    refine ⟨?_, by rw [if_neg (by omega), if_neg (by omega), if_pos (by omega)]⟩
    by_cases e : bt s i = 237
    · rw [if_pos e] at h4; omega
    · omega
  · rw [hr, hn]
    obtain ⟨h1, h2, h3, h4, h5, h6, h7, h8⟩ := h
    rw [lo_224] at h3
    rw [hi_237] at h4
    have h9 : 65536 ≤ 262144 * (bt s i - 240) + 4096 * (bt s (i + 1) - 128) + 64 * (bt s (i + 2) - 128) + (bt s (i + 3) - 128) := by
      by_cases e : bt s i = 240
      · rw [if_neg (by omega), if_pos e] at h3; omega
      · omega
    unfold Scal
    refine ⟨?_, by rw [if_neg (by omega), if_neg (by omega), if_neg (by omega)]⟩
    by_cases e : bt s i = 244
    · rw [if_neg (by omega), if_pos e] at h4; omega
    · omega

theorem valid_scal {r : Nat} (h : Scal r) : Utf8.valid (r : Int) = true := by
  unfold Scal at h
  unfold Utf8.valid
  simp
  omega

/-- The model's decoding at a character that is told. -/
theorem dec_eq {s : List UInt8} {i : Nat} (hi' : i < s.length) (he : (chAt s i).e = 0) : Utf8.decode ⟨s.toArray⟩ i = ((chAt s i).r, (chAt s i).n) := by
  obtain ⟨hs, hk⟩ := ch_scal he
  have hv := valid_scal hs
  have g0 := get_bt s i hi'
  have hsz : (⟨s.toArray⟩ : ByteArray).size = s.length := rfl
  unfold Utf8.decode
  simp only [hsz, Nat.add_zero, g0]
  rcases ch_cases he with ⟨hn, hr, h⟩ | ⟨hn, hr, h1, h⟩ | ⟨hn, hr, h1, h⟩ | ⟨hn, hr, h1, h⟩
  · rw [if_pos h, hr, hn]
  · have g1 := get_bt s (i + 1) h1
    rw [g1, if_neg (by omega), if_pos (by simp; omega), hn]
    have e : bt s i % 32 * 64 + bt s (i + 1) % 64 = (chAt s i).r := by omega
    rw [e, if_pos (by omega)]
  · have g1 := get_bt s (i + 1) (by omega)
    have g2 := get_bt s (i + 2) (by omega)
    rw [g1, g2, if_neg (by omega), if_neg (by simp; omega), if_pos (by simp; omega), hn]
    have e : bt s i % 16 * 4096 + bt s (i + 1) % 64 * 64 + bt s (i + 2) % 64 = (chAt s i).r := by omega
    rw [e, if_pos (by rw [hv]; rw [hn] at hk; simp; (repeat' split at hk) <;> omega)]
  · have g1 := get_bt s (i + 1) (by omega)
    have g2 := get_bt s (i + 2) (by omega)
    have g3 := get_bt s (i + 3) (by omega)
    rw [g1, g2, g3, if_neg (by omega), if_neg (by simp; omega), if_neg (by simp; omega), if_pos (by simp; omega), hn]
    have e : bt s i % 8 * 262144 + bt s (i + 1) % 64 * 4096 + bt s (i + 2) % 64 * 64 + bt s (i + 3) % 64 = (chAt s i).r := by omega
    rw [e, if_pos (by rw [hv]; rw [hn] at hk; simp; (repeat' split at hk) <;> omega)]

/-- A character's form. -/
def enc (r : Nat) : List UInt8 :=
  if r < 128 then [UInt8.ofNat r] else if r < 2048 then [UInt8.ofNat (192 + r / 64), UInt8.ofNat (128 + r % 64)]
  else if r < 65536 then [UInt8.ofNat (224 + r / 4096), UInt8.ofNat (128 + r / 64 % 64), UInt8.ofNat (128 + r % 64)]
  else [UInt8.ofNat (240 + r / 262144), UInt8.ofNat (128 + r / 4096 % 64), UInt8.ofNat (128 + r / 64 % 64), UInt8.ofNat (128 + r % 64)]
theorem enc_model {r : Nat} (h : Scal r) : Utf8.encode (r : Int) = ⟨(enc r).toArray⟩ := by
  unfold Utf8.encode enc
  simp only [valid_scal h, if_true, Int.toNat_natCast]
  (repeat' split) <;> first | rfl | omega
theorem enc_length (r : Nat) : (enc r).length = if r < 128 then 1 else if r < 2048 then 2 else if r < 65536 then 3 else 4 := by
  unfold enc; (repeat' split) <;> rfl
theorem toNat_ofNat {n : Nat} (h : n < 256) : (UInt8.ofNat n).toNat = n := UInt8.toNat_ofNat_of_lt' h

theorem bt_mid (p l t : List UInt8) (j : Nat) (h : j < l.length) : bt (p ++ l ++ t) (p.length + j) = l[j].toNat := by
  unfold bt
  rw [List.append_assoc, List.getD, List.getElem?_append_right (by omega), Nat.add_sub_cancel_left, List.getElem?_append_left h]
  simp [h]

/-- The form of a character, wherever it stands, is told as it. -/
theorem ch_mid (p t : List UInt8) (r : Nat) (h : Scal r) : chAt (p ++ enc r ++ t) p.length = ⟨r, (enc r).length, 0, 0⟩ := by
  have hb := fun j hj => bt_mid p (enc r) t j hj
  have h0 := hb 0 (by rw [enc_length]; (repeat' split) <;> omega)
  rw [Nat.add_zero] at h0
  have hlen : p.length + (enc r).length ≤ (p ++ enc r ++ t).length := by simp <;> omega
  by_cases h1 : r < 128
  · have he : enc r = [UInt8.ofNat r] := by unfold enc; rw [if_pos h1]
    have e0 : bt (p ++ enc r ++ t) p.length = r := by rw [h0]; simp only [he]; exact toNat_ofNat (by omega)
    have hl : (enc r).length = 1 := by rw [he]; rfl
    rw [hl, chAt_all (n := 1) (by rw [e0]; unfold wd; rw [if_pos h1]) (by omega) (fun j _ _ => by omega), code1, e0]
  · by_cases h2 : r < 2048
    · have he : enc r = [UInt8.ofNat (192 + r / 64), UInt8.ofNat (128 + r % 64)] := by unfold enc; rw [if_neg h1, if_pos h2]
      have hl : (enc r).length = 2 := by rw [he]; rfl
      have e0 : bt (p ++ enc r ++ t) p.length = 192 + r / 64 := by rw [h0]; simp only [he]; exact toNat_ofNat (by omega)
      have e1 : bt (p ++ enc r ++ t) (p.length + 1) = 128 + r % 64 := by rw [hb 1 (by omega)]; simp only [he]; exact toNat_ofNat (by omega)
      have hw : wd (192 + r / 64) = 2 := by unfold wd; (repeat' split) <;> omega
      rw [hl] at hlen ⊢
      rw [chAt_all (n := 2) (by rw [e0, hw]) (by omega) (fun j a b => by
        obtain rfl : j = 1 := by omega
        rw [e0, e1]
        refine ⟨by omega, ?_⟩
        unfold okb lo hi
        simp
        (repeat' split) <;> omega), code2, e0, e1]
      exact congrArg (fun x => (⟨x, 2, 0, 0⟩ : Ch)) (by omega)
    · by_cases h3 : r < 65536
      · have he : enc r = [UInt8.ofNat (224 + r / 4096), UInt8.ofNat (128 + r / 64 % 64), UInt8.ofNat (128 + r % 64)] := by unfold enc; rw [if_neg h1, if_neg h2, if_pos h3]
        have hl : (enc r).length = 3 := by rw [he]; rfl
        have e0 : bt (p ++ enc r ++ t) p.length = 224 + r / 4096 := by rw [h0]; simp only [he]; exact toNat_ofNat (by omega)
        have e1 : bt (p ++ enc r ++ t) (p.length + 1) = 128 + r / 64 % 64 := by rw [hb 1 (by omega)]; simp only [he]; exact toNat_ofNat (by omega)
        have e2 : bt (p ++ enc r ++ t) (p.length + 2) = 128 + r % 64 := by rw [hb 2 (by omega)]; simp only [he]; exact toNat_ofNat (by omega)
        have hw : wd (224 + r / 4096) = 3 := by unfold wd; (repeat' split) <;> omega
        rw [hl] at hlen ⊢
        rw [chAt_all (n := 3) (by rw [e0, hw]) (by omega) (fun j a b => by
          have : j = 1 ∨ j = 2 := by omega
          rcases this with rfl | rfl
          · rw [e0, e1]
            refine ⟨by omega, ?_⟩
            unfold okb lo hi
            unfold Scal at h
            simp
            (repeat' split) <;> omega
          · rw [e0, e2]
            refine ⟨by omega, ?_⟩
            unfold okb
            simp
            omega), code3, e0, e1, e2]
        exact congrArg (fun x => (⟨x, 3, 0, 0⟩ : Ch)) (by omega)
      · have he : enc r = [UInt8.ofNat (240 + r / 262144), UInt8.ofNat (128 + r / 4096 % 64), UInt8.ofNat (128 + r / 64 % 64), UInt8.ofNat (128 + r % 64)] := by unfold enc; rw [if_neg h1, if_neg h2, if_neg h3]
        have hs : r < 1114112 := by unfold Scal at h; omega
        have hl : (enc r).length = 4 := by rw [he]; rfl
        have e0 : bt (p ++ enc r ++ t) p.length = 240 + r / 262144 := by rw [h0]; simp only [he]; exact toNat_ofNat (by omega)
        have e1 : bt (p ++ enc r ++ t) (p.length + 1) = 128 + r / 4096 % 64 := by rw [hb 1 (by omega)]; simp only [he]; exact toNat_ofNat (by omega)
        have e2 : bt (p ++ enc r ++ t) (p.length + 2) = 128 + r / 64 % 64 := by rw [hb 2 (by omega)]; simp only [he]; exact toNat_ofNat (by omega)
        have e3 : bt (p ++ enc r ++ t) (p.length + 3) = 128 + r % 64 := by rw [hb 3 (by omega)]; simp only [he]; exact toNat_ofNat (by omega)
        have hw : wd (240 + r / 262144) = 4 := by unfold wd; (repeat' split) <;> omega
        rw [hl] at hlen ⊢
        rw [chAt_all (n := 4) (by rw [e0, hw]) (by omega) (fun j a b => by
          have : j = 1 ∨ j = 2 ∨ j = 3 := by omega
          rcases this with rfl | rfl | rfl
          · rw [e0, e1]
            refine ⟨by omega, ?_⟩
            unfold okb lo hi
            simp
            (repeat' split) <;> omega
          · rw [e0, e2]
            refine ⟨by omega, ?_⟩
            unfold okb
            simp
            omega
          · rw [e0, e3]
            refine ⟨by omega, ?_⟩
            unfold okb
            simp
            omega), code4, e0, e1, e2, e3]
        exact congrArg (fun x => (⟨x, 4, 0, 0⟩ : Ch)) (by omega)

theorem byte_eq {s : List UInt8} {i : Nat} (h : i < s.length) {n : Nat} (hn : bt s i = n) : s[i] = UInt8.ofNat n := by
  apply UInt8.toNat_inj.1
  have := bt_lt s i
  rw [toNat_ofNat (by omega), ← hn, bt_get s i h]
theorem take_drop_one {s : List UInt8} {i n : Nat} (h : i < s.length) : (s.drop i).take (n + 1) = s[i] :: (s.drop (i + 1)).take n := by
  rw [List.drop_eq_getElem_cons h, List.take_succ_cons]

/-- The bytes of a character that is told are its form. -/
theorem enc_eq {s : List UInt8} {i : Nat} (hi' : i < s.length) (he : (chAt s i).e = 0) : (s.drop i).take (chAt s i).n = enc (chAt s i).r := by
  obtain ⟨hs, hk⟩ := ch_scal he
  rcases ch_cases he with ⟨hn, hr, h⟩ | ⟨hn, hr, h1, h⟩ | ⟨hn, hr, h1, h⟩ | ⟨hn, hr, h1, h⟩
  · rw [hn, take_drop_one hi', List.take_zero]
    unfold enc
    rw [if_pos (by omega), byte_eq hi' hr.symm]
  · rw [hn] at hk ⊢
    rw [take_drop_one hi', take_drop_one h1, List.take_zero]
    unfold enc
    rw [if_neg (by intro h'; rw [if_pos h'] at hk; omega), if_pos (by (repeat' split at hk) <;> omega), byte_eq hi' (n := 192 + (chAt s i).r / 64) (by omega), byte_eq h1 (n := 128 + (chAt s i).r % 64) (by omega)]
  · rw [hn] at hk ⊢
    rw [take_drop_one hi', take_drop_one (by omega), take_drop_one h1, List.take_zero]
    unfold enc
    rw [if_neg (by intro h'; rw [if_pos h'] at hk; omega), if_neg (by (repeat' split at hk) <;> omega), if_pos (by (repeat' split at hk) <;> omega), byte_eq hi' (n := 224 + (chAt s i).r / 4096) (by omega), byte_eq (i := i + 1) (by omega) (n := 128 + (chAt s i).r / 64 % 64) (by omega), byte_eq h1 (n := 128 + (chAt s i).r % 64) (by omega)]
  · rw [hn] at hk ⊢
    rw [take_drop_one hi', take_drop_one (by omega), take_drop_one (by omega), take_drop_one h1, List.take_zero]
    unfold enc
    rw [if_neg (by intro h'; rw [if_pos h'] at hk; omega), if_neg (by (repeat' split at hk) <;> omega), if_neg (by (repeat' split at hk) <;> omega), byte_eq hi' (n := 240 + (chAt s i).r / 262144) (by omega), byte_eq (i := i + 1) (by omega) (n := 128 + (chAt s i).r / 4096 % 64) (by omega), byte_eq (i := i + 1 + 1) (by omega) (n := 128 + (chAt s i).r / 64 % 64) (by show bt s (i + 2) = _; omega), byte_eq h1 (n := 128 + (chAt s i).r % 64) (by omega)]
end Go.Proofs.Ytmdgopclcdmenaa
