/- Plain: units of texts, and the order of texts by units told from the first bytes that differ. No program in sight. -/
import Derived.Test.YtmdgopclcdmenaaUtfR
namespace Go.Proofs.Ytmdgopclcdmenaa
set_option linter.unusedSimpArgs false

/-- Rows of numbers, held against each other. -/
def cmpL : List Nat → List Nat → Int
  | [], [] => 0
  | [], _ :: _ => -1
  | _ :: _, [] => 1
  | a :: x, b :: y => if a < b then -1 else if b < a then 1 else cmpL x y
theorem cmpL_self : ∀ x, cmpL x x = 0
  | [] => rfl
  | a :: x => by unfold cmpL; rw [if_neg (Nat.lt_irrefl a), if_neg (Nat.lt_irrefl a)]; exact cmpL_self x
theorem cmpL_anti : ∀ x y, cmpL y x = - cmpL x y
  | [], [] => rfl
  | [], _ :: _ => rfl
  | _ :: _, [] => rfl
  | a :: x, b :: y => by
    unfold cmpL
    rcases Nat.lt_trichotomy a b with h | h | h
    · rw [if_neg (by omega), if_pos h, if_pos h]; rfl
    · subst h; rw [if_neg (by omega), if_neg (by omega), if_neg (by omega), if_neg (by omega)]; exact cmpL_anti x y
    · rw [if_pos h, if_neg (by omega), if_pos h]
theorem cmpL_range : ∀ x y, cmpL x y = -1 ∨ cmpL x y = 0 ∨ cmpL x y = 1
  | [], [] => .inr (.inl rfl)
  | [], _ :: _ => .inl rfl
  | _ :: _, [] => .inr (.inr rfl)
  | a :: x, b :: y => by
    unfold cmpL
    by_cases h1 : a < b
    · rw [if_pos h1]; exact .inl rfl
    · rw [if_neg h1]
      by_cases h2 : b < a
      · rw [if_pos h2]; exact .inr (.inr rfl)
      · rw [if_neg h2]; exact cmpL_range x y
theorem cmpL_trans : ∀ x y z, cmpL x y ≤ 0 → cmpL y z ≤ 0 → cmpL x z ≤ 0
  | [], _, [] => fun _ _ => by decide
  | [], _, _ :: _ => fun _ _ => by unfold cmpL; decide
  | _ :: _, [], _ => fun h _ => absurd h (by unfold cmpL; decide)
  | _ :: _, _ :: _, [] => fun _ h => absurd h (by unfold cmpL; decide)
  | a :: x, b :: y, c :: z => by
    unfold cmpL
    intro h1 h2
    have ih := cmpL_trans x y z
    by_cases h3 : a < b
    · by_cases h4 : b < c
      · rw [if_pos (by omega)]; decide
      · by_cases h5 : c < b
        · rw [if_neg h4, if_pos h5] at h2; exact absurd h2 (by decide)
        · rw [if_pos (by omega)]; decide
    · by_cases h4 : b < a
      · rw [if_neg h3, if_pos h4] at h1; exact absurd h1 (by decide)
      · rw [if_neg h3, if_neg h4] at h1
        obtain rfl : a = b := by omega
        by_cases h5 : a < c
        · rw [if_pos h5]; decide
        · by_cases h6 : c < a
          · rw [if_neg h5, if_pos h6] at h2; exact absurd h2 (by decide)
          · rw [if_neg h5, if_neg h6] at h2 ⊢
            exact ih h1 h2

/-- A character's units. -/
def unitsOf (r : Nat) : List Nat := if r < 65536 then [r] else [0xD800 + (r - 65536) / 1024, 0xDC00 + (r - 65536) % 1024]
def unitsF (s : List UInt8) (i : Nat) : List Nat := (runesF s i).flatMap fun x => unitsOf x.2
theorem unitsF_end {s : List UInt8} {i : Nat} (h : s.length ≤ i) : unitsF s i = [] := by unfold unitsF; rw [runesF_end h]; rfl
theorem unitsF_on {s : List UInt8} {i : Nat} (h : i < s.length) (he : (chAt s i).e = 0) : unitsF s i = unitsOf (chAt s i).r ++ unitsF s (i + (chAt s i).n) := by
  unfold unitsF; rw [runesF_on h he]; rfl

/-- How two characters stand. -/
def ucmp (a b : Nat) : Int := if 65536 ≤ a ∧ b < 65536 ∧ 57344 ≤ b then -1 else if 65536 ≤ b ∧ a < 65536 ∧ 57344 ≤ a then 1 else if a < b then -1 else 1
theorem ucmp_units (a b : Nat) (ha : Scal a) (hb : Scal b) (h : a ≠ b) (x y : List Nat) : cmpL (unitsOf a ++ x) (unitsOf b ++ y) = ucmp a b := by
  unfold Scal at ha hb
  unfold unitsOf ucmp
  by_cases h1 : a < 65536
  · by_cases h2 : b < 65536
    · rw [if_pos h1, if_pos h2, if_neg (by omega), if_neg (by omega)]
      simp only [List.singleton_append, cmpL]
      by_cases h3 : a < b
      · rw [if_pos h3, if_pos h3]
      · rw [if_neg h3, if_neg h3, if_pos (by omega)]
    · rw [if_pos h1, if_neg h2, if_neg (by omega)]
      simp only [List.singleton_append, List.cons_append, cmpL]
      by_cases h3 : 57344 ≤ a
      · rw [if_neg (by omega), if_pos (by omega), if_pos (by omega)]
      · rw [if_pos (by omega), if_neg (by omega), if_pos (by omega)]
  · by_cases h2 : b < 65536
    · rw [if_neg h1, if_pos h2]
      simp only [List.singleton_append, List.cons_append, cmpL]
      by_cases h3 : 57344 ≤ b
      · rw [if_pos (by omega), if_pos (by omega)]
      · rw [if_neg (by omega), if_pos (by omega), if_neg (by omega), if_neg (by omega), if_neg (by omega)]
    · rw [if_neg h1, if_neg h2, if_neg (by omega), if_neg (by omega)]
      simp only [List.singleton_append, List.cons_append, List.nil_append, cmpL]
      by_cases h3 : 0xD800 + (a - 65536) / 1024 < 0xD800 + (b - 65536) / 1024
      · rw [if_pos h3, if_pos (by omega)]
      · by_cases h4 : 0xD800 + (b - 65536) / 1024 < 0xD800 + (a - 65536) / 1024
        · rw [if_neg h3, if_pos h4, if_neg (by omega)]
        · rw [if_neg h3, if_neg h4]
          by_cases h5 : a < b
          · rw [if_pos (by omega), if_pos h5]
          · rw [if_neg (by omega), if_pos (by omega), if_neg h5]

/-- How two bytes that differ stand. -/
def brule (x y : Nat) : Int := if 240 ≤ x ∧ y < 240 ∧ 238 ≤ y then -1 else if 240 ≤ y ∧ x < 240 ∧ 238 ≤ x then 1 else if x < y then -1 else 1

theorem enc_bytes (r : Nat) (h : Scal r) : (r < 128 ∧ (enc r).map UInt8.toNat = [r]) ∨ (128 ≤ r ∧ r < 2048 ∧ (enc r).map UInt8.toNat = [192 + r / 64, 128 + r % 64]) ∨
    (2048 ≤ r ∧ r < 65536 ∧ (enc r).map UInt8.toNat = [224 + r / 4096, 128 + r / 64 % 64, 128 + r % 64]) ∨
    (65536 ≤ r ∧ r < 1114112 ∧ (enc r).map UInt8.toNat = [240 + r / 262144, 128 + r / 4096 % 64, 128 + r / 64 % 64, 128 + r % 64]) := by
  have hs : r < 1114112 := by unfold Scal at h; omega
  unfold enc
  by_cases h1 : r < 128
  · rw [if_pos h1]; exact .inl ⟨h1, by simp only [List.map_cons, List.map_nil, toNat_ofNat (show r < 256 by omega)]⟩
  · by_cases h2 : r < 2048
    · rw [if_neg h1, if_pos h2]
      exact .inr (.inl ⟨by omega, h2, by simp only [List.map_cons, List.map_nil, toNat_ofNat (show 192 + r / 64 < 256 by omega), toNat_ofNat (show 128 + r % 64 < 256 by omega)]⟩)
    · by_cases h3 : r < 65536
      · rw [if_neg h1, if_neg h2, if_pos h3]
        exact .inr (.inr (.inl ⟨by omega, h3, by simp only [List.map_cons, List.map_nil, toNat_ofNat (show 224 + r / 4096 < 256 by omega), toNat_ofNat (show 128 + r / 64 % 64 < 256 by omega), toNat_ofNat (show 128 + r % 64 < 256 by omega)]⟩))
      · rw [if_neg h1, if_neg h2, if_neg h3]
        exact .inr (.inr (.inr ⟨by omega, hs, by simp only [List.map_cons, List.map_nil, toNat_ofNat (show 240 + r / 262144 < 256 by omega), toNat_ofNat (show 128 + r / 4096 % 64 < 256 by omega), toNat_ofNat (show 128 + r / 64 % 64 < 256 by omega), toNat_ofNat (show 128 + r % 64 < 256 by omega)]⟩))

/-- Where two rows of numbers first differ, and how these stand. -/
def FDis (x y : List Nat) (v : Int) : Prop := ∃ d u1 u2 : Nat, x[d]? = some u1 ∧ y[d]? = some u2 ∧ u1 ≠ u2 ∧ (∀ k, k < d → x[k]? = y[k]?) ∧ brule u1 u2 = v
theorem fd_head (u1 u2 : Nat) (x y : List Nat) (v : Int) (h : u1 ≠ u2) (hv : brule u1 u2 = v) : FDis (u1 :: x) (u2 :: y) v :=
  ⟨0, u1, u2, rfl, rfl, h, fun k hk => absurd hk (by omega), hv⟩
theorem fd_tail (u : Nat) (x y : List Nat) (v : Int) (h : FDis x y v) : FDis (u :: x) (u :: y) v := by
  obtain ⟨d, u1, u2, h1, h2, h3, h4, h5⟩ := h
  refine ⟨d + 1, u1, u2, by simpa using h1, by simpa using h2, h3, fun k hk => ?_, h5⟩
  cases k with
  | zero => rfl
  | succ k => simpa using h4 k (by omega)
theorem brule_lt {x y : Nat} (h : x < y) (h2 : ¬ (240 ≤ y ∧ x < 240 ∧ 238 ≤ x)) : brule x y = -1 := by
  unfold brule; rw [if_neg (by omega), if_neg h2, if_pos h]
theorem brule_gt {x y : Nat} (h : y < x) (h2 : ¬ (240 ≤ x ∧ y < 240 ∧ 238 ≤ y)) : brule x y = 1 := by
  unfold brule; rw [if_neg h2, if_neg (by omega), if_neg (by omega)]
theorem ucmp_lt {a b : Nat} (h : a < b) (h2 : ¬ (65536 ≤ b ∧ a < 65536 ∧ 57344 ≤ a)) : ucmp a b = -1 := by
  unfold ucmp; rw [if_neg (by omega), if_neg h2, if_pos h]
theorem ucmp_gt {a b : Nat} (h : b < a) (h2 : ¬ (65536 ≤ a ∧ b < 65536 ∧ 57344 ≤ b)) : ucmp a b = 1 := by
  unfold ucmp; rw [if_neg h2, if_neg (by omega), if_neg (by omega)]

/-- Two characters' forms of one size. -/
theorem fd_lt (x y a b : Nat) (hxy : x ≠ y) (hiff : x < y ↔ a < b) (hx : ¬ (240 ≤ y ∧ x < 240 ∧ 238 ≤ x)) (hx' : ¬ (240 ≤ x ∧ y < 240 ∧ 238 ≤ y)) (ha : ¬ (65536 ≤ b ∧ a < 65536 ∧ 57344 ≤ a)) (hb : ¬ (65536 ≤ a ∧ b < 65536 ∧ 57344 ≤ b)) (hab : a ≠ b) :
    brule x y = ucmp a b := by
  rcases Nat.lt_or_ge x y with h | h
  · rw [brule_lt h hx, ucmp_lt (hiff.1 h) ha]
  · have : b < a := by
      rcases Nat.lt_or_ge a b with h' | h'
      · exact absurd (hiff.2 h') (by omega)
      · omega
    rw [brule_gt (by omega) hx', ucmp_gt this hb]
theorem enc_fd (a b : Nat) (ha : Scal a) (hb : Scal b) (h : a ≠ b) : FDis ((enc a).map UInt8.toNat) ((enc b).map UInt8.toNat) (ucmp a b) := by
  rcases enc_bytes a ha with ⟨a1, ea⟩ | ⟨a1, a2, ea⟩ | ⟨a1, a2, ea⟩ | ⟨a1, a2, ea⟩ <;>
  rcases enc_bytes b hb with ⟨b1, eb⟩ | ⟨b1, b2, eb⟩ | ⟨b1, b2, eb⟩ | ⟨b1, b2, eb⟩ <;> rw [ea, eb]
  · exact fd_head _ _ _ _ _ h (fd_lt _ _ a b h Iff.rfl (by omega) (by omega) (by omega) (by omega) h)
  · exact fd_head _ _ _ _ _ (by omega) (fd_lt _ _ a b (by omega) (by omega) (by omega) (by omega) (by omega) (by omega) h)
  · exact fd_head _ _ _ _ _ (by omega) (fd_lt _ _ a b (by omega) (by omega) (by omega) (by omega) (by omega) (by omega) h)
  · exact fd_head _ _ _ _ _ (by omega) (fd_lt _ _ a b (by omega) (by omega) (by omega) (by omega) (by omega) (by omega) h)
  · exact fd_head _ _ _ _ _ (by omega) (fd_lt _ _ a b (by omega) (by omega) (by omega) (by omega) (by omega) (by omega) h)
  · by_cases q : a / 64 = b / 64
    · rw [q]
      exact fd_tail _ _ _ _ (fd_head _ _ _ _ _ (by omega) (fd_lt _ _ a b (by omega) (by omega) (by omega) (by omega) (by omega) (by omega) h))
    · exact fd_head _ _ _ _ _ (by omega) (fd_lt _ _ a b (by omega) (by omega) (by omega) (by omega) (by omega) (by omega) h)
  · exact fd_head _ _ _ _ _ (by omega) (fd_lt _ _ a b (by omega) (by omega) (by omega) (by omega) (by omega) (by omega) h)
  · exact fd_head _ _ _ _ _ (by omega) (fd_lt _ _ a b (by omega) (by omega) (by omega) (by omega) (by omega) (by omega) h)
  · exact fd_head _ _ _ _ _ (by omega) (fd_lt _ _ a b (by omega) (by omega) (by omega) (by omega) (by omega) (by omega) h)
  · exact fd_head _ _ _ _ _ (by omega) (fd_lt _ _ a b (by omega) (by omega) (by omega) (by omega) (by omega) (by omega) h)
  · by_cases q : a / 4096 = b / 4096
    · rw [q]
      refine fd_tail _ _ _ _ ?_
      by_cases q2 : a / 64 % 64 = b / 64 % 64
      · rw [q2]
        exact fd_tail _ _ _ _ (fd_head _ _ _ _ _ (by omega) (fd_lt _ _ a b (by omega) (by omega) (by omega) (by omega) (by omega) (by omega) h))
      · exact fd_head _ _ _ _ _ (by omega) (fd_lt _ _ a b (by omega) (by omega) (by omega) (by omega) (by omega) (by omega) h)
    · exact fd_head _ _ _ _ _ (by omega) (fd_lt _ _ a b (by omega) (by omega) (by omega) (by omega) (by omega) (by omega) h)
  · unfold Scal at ha hb
    refine fd_head _ _ _ _ _ (by omega) ?_
    by_cases q : 57344 ≤ a
    · unfold brule ucmp
      rw [if_neg (by omega), if_pos (by omega), if_neg (by omega), if_pos (by omega)]
    · exact fd_lt _ _ a b (by omega) (by omega) (by omega) (by omega) (by omega) (by omega) h
  · exact fd_head _ _ _ _ _ (by omega) (fd_lt _ _ a b (by omega) (by omega) (by omega) (by omega) (by omega) (by omega) h)
  · exact fd_head _ _ _ _ _ (by omega) (fd_lt _ _ a b (by omega) (by omega) (by omega) (by omega) (by omega) (by omega) h)
  · unfold Scal at ha hb
    refine fd_head _ _ _ _ _ (by omega) ?_
    by_cases q : 57344 ≤ b
    · unfold brule ucmp
      rw [if_pos (by omega), if_pos (by omega)]
    · exact fd_lt _ _ a b (by omega) (by omega) (by omega) (by omega) (by omega) (by omega) h
  · by_cases q : a / 262144 = b / 262144
    · rw [q]
      refine fd_tail _ _ _ _ ?_
      by_cases q1 : a / 4096 % 64 = b / 4096 % 64
      · rw [q1]
        refine fd_tail _ _ _ _ ?_
        by_cases q2 : a / 64 % 64 = b / 64 % 64
        · rw [q2]
          exact fd_tail _ _ _ _ (fd_head _ _ _ _ _ (by omega) (fd_lt _ _ a b (by omega) (by omega) (by omega) (by omega) (by omega) (by omega) h))
        · exact fd_head _ _ _ _ _ (by omega) (fd_lt _ _ a b (by omega) (by omega) (by omega) (by omega) (by omega) (by omega) h)
      · exact fd_head _ _ _ _ _ (by omega) (fd_lt _ _ a b (by omega) (by omega) (by omega) (by omega) (by omega) (by omega) h)
    · exact fd_head _ _ _ _ _ (by omega) (fd_lt _ _ a b (by omega) (by omega) (by omega) (by omega) (by omega) (by omega) h)

/-- The first place at which two texts differ, or one ends. -/
structure IsFD (a b : List UInt8) (i : Nat) : Prop where
  la : i ≤ a.length
  lb : i ≤ b.length
  eq : ∀ k, k < i → bt a k = bt b k
  ne : i < a.length → i < b.length → bt a i ≠ bt b i
def prule (a b : List UInt8) (i : Nat) : Int :=
  if i = a.length ∨ i = b.length then (if a.length < b.length then -1 else if b.length < a.length then 1 else 0) else brule (bt a i) (bt b i)

theorem enc_at {s : List UInt8} {j k : Nat} (he : (chAt s j).e = 0) (hj : j < s.length) (hk : k < (chAt s j).n) : ((enc (chAt s j).r).map UInt8.toNat)[k]? = some (bt s (j + k)) := by
  have hlen := chAt_len hj
  rw [← enc_eq hj he, List.getElem?_map, List.getElem?_take, if_pos hk, List.getElem?_drop, List.getElem?_eq_getElem (by omega)]
  simp only [Option.map_some]
  rw [bt_get s (j + k) (by omega)]
theorem enc_len {s : List UInt8} {j : Nat} (he : (chAt s j).e = 0) (hj : j < s.length) : ((enc (chAt s j).r).map UInt8.toNat).length = (chAt s j).n := by
  have hlen := chAt_len hj
  rw [← enc_eq hj he]; simp; omega

theorem cmp_units (a b : List UInt8) (i : Nat) (hf : IsFD a b i) : ∀ m j, a.length - j = m → j ≤ i → wrongF a j = (0, 0) → wrongF b j = (0, 0) → cmpL (unitsF a j) (unitsF b j) = prule a b i := by
  intro m
  induction m using Nat.strongRecOn with
  | ind m ih =>
    intro j hm hji hwa hwb
    have hla := hf.la
    have hlb := hf.lb
    by_cases ha : j < a.length
    · by_cases hb : j < b.length
      · have ea : (chAt a j).e = 0 := by
          by_cases h : (chAt a j).e = 0
          · exact h
          · rw [wrongF_bad ha h] at hwa; exact congrArg Prod.fst hwa
        have eb : (chAt b j).e = 0 := by
          by_cases h : (chAt b j).e = 0
          · exact h
          · rw [wrongF_bad hb h] at hwb; exact congrArg Prod.fst hwb
        rw [unitsF_on ha ea, unitsF_on hb eb]
        have la := chAt_len ha
        have lb := chAt_len hb
        have sa := (ch_scal ea)
        have sb := (ch_scal eb)
        have na : 0 < (chAt a j).n := by rw [sa.2]; (repeat' split) <;> omega
        by_cases hr : (chAt a j).r = (chAt b j).r
        · have hn : (chAt a j).n = (chAt b j).n := by rw [sa.2, sb.2, hr]
          have hji2 : j + (chAt a j).n ≤ i := by
            rcases Nat.lt_or_ge i (j + (chAt a j).n) with h | h
            · exfalso
              have h1 := enc_at (k := i - j) ea ha (by omega)
              have h2 := enc_at (k := i - j) eb hb (by omega)
              rw [hr, h2] at h1
              injection h1 with h1
              rw [show j + (i - j) = i by omega] at h1
              exact hf.ne (by omega) (by omega) h1.symm
            · exact h
          have hc : cmpL (unitsOf (chAt a j).r ++ unitsF a (j + (chAt a j).n)) (unitsOf (chAt b j).r ++ unitsF b (j + (chAt b j).n)) = cmpL (unitsF a (j + (chAt a j).n)) (unitsF b (j + (chAt b j).n)) := by
            rw [hr]
            generalize unitsF a (j + (chAt a j).n) = X
            generalize unitsF b (j + (chAt b j).n) = Y
            unfold unitsOf
            split
            · simp [cmpL]
            · simp [cmpL]
          rw [hc, ← hn]
          rw [wrongF_on ha ea] at hwa
          rw [wrongF_on hb eb, ← hn] at hwb
          exact ih (a.length - (j + (chAt a j).n)) (by omega) _ rfl hji2 hwa hwb
        · rw [ucmp_units _ _ sa.1 sb.1 hr]
          obtain ⟨d, u1, u2, h1, h2, h3, h4, h5⟩ := enc_fd _ _ sa.1 sb.1 hr
          have hd1 : d < (chAt a j).n := by
            rw [← enc_len ea ha]
            exact (List.getElem?_eq_some_iff.1 h1).1
          have hd2 : d < (chAt b j).n := by
            rw [← enc_len eb hb]
            exact (List.getElem?_eq_some_iff.1 h2).1
          rw [enc_at ea ha hd1] at h1
          rw [enc_at eb hb hd2] at h2
          injection h1 with h1
          injection h2 with h2
          have hid : i = j + d := by
            rcases Nat.lt_trichotomy i (j + d) with h | h | h
            · exfalso
              have h6 := h4 (i - j) (by omega)
              rw [enc_at ea ha (by omega), enc_at eb hb (by omega), show j + (i - j) = i by omega] at h6
              injection h6 with h6
              exact hf.ne (by omega) (by omega) h6
            · exact h
            · exfalso
              have := hf.eq (j + d) h
              omega
          unfold prule
          rw [if_neg (by omega), hid, h1, h2, h5]
      · have hjb : j = b.length := by omega
        have hib : i = b.length := by omega
        rw [unitsF_end (s := b) (by omega)]
        have ea : (chAt a j).e = 0 := by
          by_cases h : (chAt a j).e = 0
          · exact h
          · rw [wrongF_bad ha h] at hwa; exact congrArg Prod.fst hwa
        rw [unitsF_on ha ea]
        unfold prule
        rw [if_pos (.inr hib), if_neg (by omega), if_pos (by omega)]
        unfold unitsOf
        split <;> simp [cmpL]
    · have hja : j = a.length := by omega
      have hia : i = a.length := by omega
      rw [unitsF_end (s := a) (by omega)]
      unfold prule
      rw [if_pos (.inl hia)]
      by_cases hb : j < b.length
      · have eb : (chAt b j).e = 0 := by
          by_cases h : (chAt b j).e = 0
          · exact h
          · rw [wrongF_bad hb h] at hwb; exact congrArg Prod.fst hwb
        rw [unitsF_on hb eb, if_pos (by omega)]
        unfold unitsOf
        split <;> simp [cmpL]
      · rw [unitsF_end (s := b) (by omega), if_neg (by omega), if_neg (by omega)]
        rfl
theorem cmp_right (a b : List UInt8) (i : Nat) (hf : IsFD a b i) (ha : right a = true) (hb : right b = true) : cmpL (unitsF a 0) (unitsF b 0) = prule a b i := by
  have h : ∀ s, right s = true → wrongF s 0 = (0, 0) := by
    intro s hs
    have h1 : (wrong s).1 = 0 := of_decide_eq_true hs
    unfold wrong at h1
    have : ∀ m j, s.length - j = m → (wrongF s j).1 = 0 → wrongF s j = (0, 0) := by
      intro m
      induction m using Nat.strongRecOn with
      | ind m ih =>
        intro j hm h1
        by_cases hj : j < s.length
        · by_cases he : (chAt s j).e = 0
          · have hp : 0 < (chAt s j).n := by rcases chAt_spec s j with ⟨_, h, _⟩ | ⟨h, _⟩ | ⟨h, _⟩ <;> omega
            rw [wrongF_on hj he] at h1 ⊢
            exact ih (s.length - (j + (chAt s j).n)) (by omega) _ rfl h1
          · rw [wrongF_bad hj he] at h1
            exact absurd h1 he
        · exact wrongF_end (by omega)
    exact this _ 0 rfl h1
  exact cmp_units a b i hf _ 0 rfl (Nat.zero_le _) (h a ha) (h b hb)
end Go.Proofs.Ytmdgopclcdmenaa
