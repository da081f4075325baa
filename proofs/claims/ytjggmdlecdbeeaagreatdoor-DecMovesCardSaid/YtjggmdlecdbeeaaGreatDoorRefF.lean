/- The reference's Float: a float's bits as a whole number and a power of two. Plain law: where a bare decimal's magnitude stands to a float, and to the half of the gap above it, by whole products; the halving comes to the floor, and to the same bits. -/
import Derived.Test.YtjggmdlecdbeeaaGreatDoorRefE
import Derived.Test.YtjggmdlecdbeeaaGreatDoorRat
import Derived.Test.YtjggmdlecdbeeaaGreatDoorDecW
namespace Go.Proofs.YtjggmdlecdbeeaaGreatDoor
open Go.RowKit
set_option linter.unusedSimpArgs false
set_option linter.unusedVariables false

def fltM (b : Nat) : Nat := if b / 4503599627370496 = 0 then b % 4503599627370496 else b % 4503599627370496 + 4503599627370496
def fltK (b : Nat) : Int := if b / 4503599627370496 = 0 then -1074 else ((b / 4503599627370496 : Nat) : Int) - 1075
theorem and_low (a k : Nat) (ha : a < W64) (hk : 2 ^ k - 1 < W64) : bits .and .u64 (a : Int) ((2 ^ k - 1 : Nat) : Int) = ((a % 2 ^ k : Nat) : Int) := by
  have h := bits_and_u64_nat a (2 ^ k - 1) ha hk
  rwa [Nat.and_two_pow_sub_one_eq_mod] at h

set_option maxRecDepth 1000000 in
theorem rfloat_any (b : Nat) (w : World) (hb : b < 9218868437227405312) :
    Calls Tryz.prog 35 #[.int .u64 b] w fun e w' => e = .returned (.tuple #[.int .u64 (fltM b : Nat), .int .i64 (fltK b)]) ∧ w = w' := by
  have e1 : (b : Int) / 4503599627370496 = ((b / 4503599627370496 : Nat) : Int) := by omega
  have hq : b / 4503599627370496 < 2047 := by omega
  have e2 : bits .and .u64 ((b / 4503599627370496 : Nat) : Int) 2047 = ((b / 4503599627370496 : Nat) : Int) := by
    have h := and_low (b / 4503599627370496) 11 (by unfold W64; omega) (by decide)
    rw [Nat.mod_eq_of_lt (by omega)] at h
    exact h
  have e3 : bits .and .u64 (b : Int) 4503599627370495 = ((b % 4503599627370496 : Nat) : Int) := and_low b 52 (by unfold W64; omega) (by decide)
  have hr : b % 4503599627370496 < 4503599627370496 := Nat.mod_lt _ (by decide)
  have hbI : (b : Int) ≤ 9218868437227405312 := by omega
  unfold fltM fltK
  generalize b / 4503599627370496 = q at *
  generalize b % 4503599627370496 = r at *
  have hqI : (q : Int) ≤ 2047 := by omega
  have hrI : (r : Int) < 4503599627370496 := by omega
  clear hb
  by_cases h0 : q = 0
  · subst h0
    rw [if_pos rfl, if_pos rfl]
    have e0 : ((0 : Nat) : Int) = 0 := rfl
    rw [e0] at e1 e2
    clear hr hq hqI e0
    go_enter Tryz.func35, Tryz.ntmps35
    go_wp2_with fail
    exact bodyPost_ret (v := .tuple #[.int .u64 (r : Int), .int .i64 (-1074)]) (by simp [results, Tryz.results35, go_sem]) rfl ⟨rfl, rfl⟩
  · have t : ((q : Int) == 0) = false := by rw [beq_eq_false_iff_ne]; omega
    rw [if_neg h0, if_neg h0]
    have e4 : IntKind.u64.wrap ((r : Int) + 4503599627370496) = ((r + 4503599627370496 : Nat) : Int) := by rw [show (r : Int) + 4503599627370496 = ((r + 4503599627370496 : Nat) : Int) by omega]; exact wrapN _ (by unfold W64; omega)
    have e5 : IntKind.i64.wrap ((q : Int) - 1075) = (q : Int) - 1075 := IntWalk.i64_in _ (by omega)
    clear hr hq h0
    go_enter Tryz.func35, Tryz.ntmps35
    go_wp2_with fail
    exact bodyPost_ret (v := .tuple #[.int .u64 ((r : Int) + 4503599627370496), .int .i64 ((q : Int) - 1075)]) (by simp [results, Tryz.results35, go_sem]) rfl ⟨rfl, rfl⟩
end Go.Proofs.YtjggmdlecdbeeaaGreatDoor

namespace Go.Proofs.YtjggmdlecdbeeaaGreatDoor
set_option linter.unusedVariables false
set_option linter.unusedSimpArgs false

/-- A bare decimal's magnitude against m times two to the power k. -/
def agV (d : Dm) (m : Nat) (k : Int) : Int := if d.2.1 = [] then (if m = 0 then 0 else -1) else cmpI (numD (shortD d) * 2 ^ (-k).toNat) (m * denD (shortD d) * 2 ^ k.toNat)
/-- Against a float. -/
def agF (d : Dm) (b : Nat) : Int := if d.2.1 = [] then (if b = 0 then 0 else -1) else cmpI (numD (shortD d) * 2 ^ 1074) (Fl b * denD (shortD d))
/-- Against the half of the gap above a float. -/
def agH (d : Dm) (b : Nat) : Int := if d.2.1 = [] then -1 else cmpI (2 * (numD (shortD d) * 2 ^ 1074)) ((Fl b + Fl (b + 1)) * denD (shortD d))

theorem cmp_scale (N D m : Nat) (k : Int) (u : Nat) (h : -(u : Int) ≤ k) : cmpI (N * 2 ^ (-k).toNat) (m * D * 2 ^ k.toNat) = cmpI (N * 2 ^ u) (m * 2 ^ (k + u).toNat * D) := by
  obtain ⟨j, hj⟩ : ∃ j, u = (-k).toNat + j := ⟨u - (-k).toNat, by omega⟩
  have h2 : (k + u).toNat = k.toNat + j := by omega
  rw [h2, hj, ← cmpI_mul (c := 2 ^ j) (Nat.pow_pos (by decide)), Nat.mul_assoc, ← Nat.pow_add, Nat.pow_add 2 k.toNat]
  congr 1
  ac_rfl

theorem flt_P52 (b : Nat) : b / 4503599627370496 = 0 ↔ b < P52 := by unfold P52; omega
theorem flt_form (b u : Nat) (hu : u = 1074) : (fltM b : Nat) * 2 ^ (fltK b + (u : Nat)).toNat = Fl b ∧ ((2 * fltM b + 1) * 2 ^ (fltK b + (u : Nat)).toNat = Fl b + Fl (b + 1)) ∧ -1074 ≤ fltK b ∧ (fltM b = 0 ↔ b = 0) := by
  have hm := Nat.div_add_mod b P52
  have hlt : b % P52 < P52 := Nat.mod_lt _ (by decide)
  unfold fltM fltK
  by_cases h : b / 4503599627370496 = 0
  · have h' := (flt_P52 b).1 h
    have hb : b % 4503599627370496 = b := Nat.mod_eq_of_lt (by unfold P52 at h'; exact h')
    rw [if_pos h, if_pos h, hb]
    have e : ((-1074 : Int) + (u : Nat)).toNat = 0 := by omega
    rw [e, Nat.pow_zero, Nat.mul_one, Nat.mul_one]
    have f1 := Fl_at (j := 0) (m := b) (.inl rfl) (by omega)
    have f2 := Fl_next (j := 0) (m := b) (.inl rfl) (by omega)
    rw [Nat.zero_mul, Nat.zero_add, Nat.pow_zero, Nat.mul_one] at f1 f2
    exact ⟨f1.symm, by rw [f1, f2]; omega, by omega, Iff.rfl⟩
  · have hP : P52 = 4503599627370496 := rfl
    rw [if_neg h, if_neg h, ← hP]
    rw [← hP] at h
    obtain ⟨q, hq⟩ : ∃ q, b / P52 = q + 1 := Nat.exists_eq_succ_of_ne_zero h
    rw [hq]
    have e : (((q + 1 : Nat) : Int) - 1075 + (u : Nat)).toNat = q := by omega
    rw [e]
    rw [hq] at hm
    have hb : b = q * P52 + (b % P52 + P52) := by rw [Nat.mul_add, Nat.mul_one, Nat.mul_comm] at hm; omega
    have f1 := Fl_at (j := q) (m := b % P52 + P52) (.inr (by omega)) (by omega)
    have f2 := Fl_next (j := q) (m := b % P52 + P52) (.inr (by omega)) (by omega)
    rw [← hb] at f1 f2
    refine ⟨f1.symm, ?_, by omega, ⟨fun h0 => by omega, fun h0 => by subst h0; simp at h⟩⟩
    rw [f1, f2, ← Nat.add_mul]
    exact congrArg (· * 2 ^ q) (by omega)
theorem agV_at (d : Dm) (b u : Nat) (hu : u = 1074) : agV d (fltM b) (fltK b) = if d.2.1 = [] then (if b = 0 then 0 else -1) else cmpI (numD (shortD d) * 2 ^ u) (Fl b * denD (shortD d)) := by
  obtain ⟨h1, _, h3, h4⟩ := flt_form b u hu
  unfold agV
  split
  · simp only [h4]
  · have h := cmp_scale (numD (shortD d)) (denD (shortD d)) (fltM b) (fltK b) u (by omega)
    rw [h1] at h
    exact h
theorem agV_flt (d : Dm) (b : Nat) : agV d (fltM b) (fltK b) = agF d b := agV_at d b 1074 rfl
theorem agV_hat (d : Dm) (b u : Nat) (hu : u = 1074) : agV d (2 * fltM b + 1) (fltK b - 1) = if d.2.1 = [] then -1 else cmpI (2 * (numD (shortD d) * 2 ^ u)) ((Fl b + Fl (b + 1)) * denD (shortD d)) := by
  obtain ⟨_, h2, h3, _⟩ := flt_form b u hu
  unfold agV
  split
  · rw [if_neg (by omega)]
  · have h := cmp_scale (numD (shortD d)) (denD (shortD d)) (2 * fltM b + 1) (fltK b - 1) (u + 1) (by omega)
    have e : (fltK b - 1 + ((u + 1 : Nat) : Int)).toNat = (fltK b + (u : Nat)).toNat := by omega
    have e2 : numD (shortD d) * 2 ^ (u + 1) = 2 * (numD (shortD d) * 2 ^ u) := by rw [Nat.pow_succ]; ac_rfl
    rw [e, h2, e2] at h
    exact h
theorem agV_half (d : Dm) (b : Nat) : agV d (2 * fltM b + 1) (fltK b - 1) = agH d b := agV_hat d b 1074 rfl

theorem cutB_u (A B u : Nat) (hu : u = 1074) : cutB A B = min (flT (A * 2 ^ u / B)) most := by subst hu; rfl
theorem cutP_u (A B u : Nat) (hu : u = 1074) : cutP A B = (cutB A B, cmpI (2 * (A * 2 ^ u)) ((Fl (cutB A B) + Fl (cutB A B + 1)) * B), decide (Fl (cutB A B) * B = A * 2 ^ u)) := by subst hu; rfl
theorem agF_u (d : Dm) (b u : Nat) (hu : u = 1074) : agF d b = if d.2.1 = [] then (if b = 0 then 0 else -1) else cmpI (numD (shortD d) * 2 ^ u) (Fl b * denD (shortD d)) := by subst hu; rfl
theorem agH_u (d : Dm) (b u : Nat) (hu : u = 1074) : agH d b = if d.2.1 = [] then -1 else cmpI (2 * (numD (shortD d) * 2 ^ u)) ((Fl b + Fl (b + 1)) * denD (shortD d)) := by subst hu; rfl
theorem cut_iff {A B b u : Nat} (hu : u = 1074) (hB : 0 < B) (hb : b ≤ most) : b ≤ cutB A B ↔ Fl b * B ≤ A * 2 ^ u := by
  rw [cutB_u A B u hu, Nat.le_min, flT_iff, Nat.le_div_iff_mul_le hB]
  exact ⟨fun h => h.1, fun h => ⟨h, hb⟩⟩
theorem cut_most (A B : Nat) : cutB A B ≤ most := Nat.min_le_right _ _
theorem cmpI_nonneg {a b : Nat} : 0 ≤ cmpI a b ↔ b ≤ a := by
  rcases cmpI_tri a b with ⟨h, e⟩ | ⟨h, e⟩ | ⟨h, e⟩ <;> rw [e] <;> omega
theorem agF_ge {d : Dm} (hd : Bare d) {b : Nat} (hb : b ≤ most) : 0 ≤ agF d b ↔ b ≤ (floorP d).1 := by
  obtain ⟨u, hu⟩ : ∃ u, u = 1074 := ⟨_, rfl⟩
  rw [agF_u d b u hu]
  by_cases h : d.2.1 = []
  · rw [if_pos h]
    unfold floorP
    rw [if_pos h]
    split <;> simp <;> omega
  · rw [if_neg h, floorP_cut (hd.lead h), cmpI_nonneg]
    exact (cut_iff hu (denD_pos _) hb).symm
theorem agF_exact {d : Dm} (hd : Bare d) : (agF d (floorP d).1 = 0) ↔ (floorP d).2.2 = true := by
  obtain ⟨u, hu⟩ : ∃ u, u = 1074 := ⟨_, rfl⟩
  rw [agF_u d _ u hu]
  by_cases h : d.2.1 = []
  · rw [if_pos h]
    unfold floorP
    rw [if_pos h]
    simp
  · rw [if_neg h, floorP_cut (hd.lead h), cutP_u _ _ u hu]
    simp only [decide_eq_true_eq]
    rcases cmpI_tri (numD (shortD d) * 2 ^ u) (Fl (cutB (numD (shortD d)) (denD (shortD d))) * denD (shortD d)) with ⟨h, e⟩ | ⟨h, e⟩ | ⟨h, e⟩ <;> rw [e] <;> omega
theorem agH_half {d : Dm} (hd : Bare d) (h : d.2.1 ≠ []) : agH d (floorP d).1 = (floorP d).2.1 := by
  obtain ⟨u, hu⟩ : ∃ u, u = 1074 := ⟨_, rfl⟩
  rw [agH_u d _ u hu, if_neg h, floorP_cut (hd.lead h), cutP_u _ _ u hu]
theorem half_exact {A B : Nat} (hB : 0 < B) (h : (cutP A B).2.2 = true) : (cutP A B).2.1 = -1 := by
  obtain ⟨u, hu⟩ : ∃ u, u = 1074 := ⟨_, rfl⟩
  rw [cutP_u _ _ u hu] at *
  simp only [decide_eq_true_eq] at h ⊢
  rw [← h]
  refine cmpI_lt ?_
  have h1 := Nat.mul_lt_mul_of_pos_right (Fl_up (cutB A B)) hB
  rw [Nat.add_mul]
  omega
/-- Whether the reference rounds up. -/
def upR (g : Bool) (f : Nat) (exact : Bool) (half : Int) (way : Int) : Bool :=
  if way = 1 then decide (0 < half) || (half == 0 && f % 2 == 1) else if way = 2 then decide (0 ≤ half) else if way = 4 then g && !exact else if way = 5 then !g && !exact else false
theorem upR_upP {d : Dm} (hd : Bare d) (way : Int) : upR d.1 (floorP d).1 (decide (agF d (floorP d).1 = 0)) (agH d (floorP d).1) way = upP d.1 (floorP d) way := by
  have hx : decide (agF d (floorP d).1 = 0) = (floorP d).2.2 := by
    rw [Bool.eq_iff_iff, decide_eq_true_eq]; exact agF_exact hd
  rw [hx]
  by_cases h : d.2.1 = []
  · have e := hd.2.1 h
    subst e
    have e1 : floorP (false, [], 0) = (0, 0, true) := rfl
    have e2 : agH (false, [], 0) 0 = -1 := rfl
    rw [e1, e2]
    unfold upR upP
    repeat' split
    all_goals first | rfl | omega
  · rw [agH_half hd h]
    have hc := floorP_cut (hd.lead h)
    have hr : (floorP d).2.1 = -1 ∨ (floorP d).2.1 = 0 ∨ (floorP d).2.1 = 1 := by obtain ⟨u, hu⟩ : ∃ u, u = 1074 := ⟨_, rfl⟩; rw [hc, cutP_u _ _ u hu]; exact cmpI_range _ _
    have he : (floorP d).2.2 = true → (floorP d).2.1 = -1 := by intro hx; rw [hc] at hx ⊢; exact half_exact (denD_pos _) hx
    generalize floorP d = c at *
    obtain ⟨b, h1, x⟩ := c
    simp only at hr he ⊢
    unfold upR upP
    simp only
    by_cases w4 : way = 4
    · subst w4; simp
    by_cases w5 : way = 5
    · subst w5; simp
    by_cases w1 : way = 1
    · subst w1
      rw [if_pos rfl, if_neg (by decide), if_neg (by decide), if_pos rfl]
      cases x with
      | true =>
        have := he rfl
        subst this
        simp
      | false =>
        rcases hr with rfl | rfl | rfl
        · simp
        · rcases Nat.mod_two_eq_zero_or_one b with h2 | h2 <;> simp [h2]
        · simp
    by_cases w2 : way = 2
    · subst w2
      rw [if_neg (by decide), if_pos rfl, if_neg (by decide), if_neg (by decide), if_neg (by decide), if_pos rfl]
      cases x with
      | true =>
        have := he rfl
        subst this
        simp
      | false => simp
    rw [if_neg w1, if_neg w2, if_neg w4, if_neg w5, if_neg w4, if_neg w5, if_neg w1, if_neg w2]
theorem roundP_ref {d : Dm} (hd : Bare d) (way : Int) : roundP d way = endP d.1 (if upR d.1 (floorP d).1 (decide (agF d (floorP d).1 = 0)) (agH d (floorP d).1) way then (floorP d).1 + 1 else (floorP d).1) := by
  unfold roundP roundC
  rw [upR_upP hd]
/-- Where a literal stands to a float. -/
theorem again_ref {d : Dm} (hd : Bare d) (h : d.2.1 ≠ []) {m : Nat} (hm : m ≤ most) (s : Int) : s * agF d m = againC s (floorP d) m := by
  have hc := floorP_cut (hd.lead h)
  obtain ⟨u, hu⟩ : ∃ u, u = 1074 := ⟨_, rfl⟩
  have h1 := cut_iff (A := numD (shortD d)) hu (denD_pos (shortD d)) hm
  have h2 := cut_iff (A := numD (shortD d)) hu (denD_pos (shortD d)) (cut_most (numD (shortD d)) (denD (shortD d)))
  unfold againC
  rw [agF_u d m u hu, if_neg h, hc, cutP_u _ _ u hu]
  simp only [decide_eq_true_eq]
  generalize numD (shortD d) * 2 ^ u = A at *
  generalize hcb : cutB (numD (shortD d)) (denD (shortD d)) = c at *
  generalize hB : denD (shortD d) = B at *
  have hB0 : 0 < B := by rw [← hB]; exact denD_pos _
  have h2' := h2.1 (Nat.le_refl _)
  clear h2 hcb hc
  rcases cmpI_tri A (Fl m * B) with ⟨k, e⟩ | ⟨k, e⟩ | ⟨k, e⟩
  · rw [e]
    have : ¬ m ≤ c := fun hle => by have := h1.1 hle; omega
    rw [if_neg (by omega), if_pos (by omega)]
    omega
  · rw [e]
    have hmc : m ≤ c := h1.2 (by omega)
    have : m = c := by
      rcases Nat.lt_or_ge m c with hlt | hge
      · have := Nat.mul_lt_mul_of_pos_right (Fl_lt.2 hlt) hB0
        omega
      · omega
    subst this
    rw [if_neg (by intro hh; exact hh.2 ⟨rfl, k.symm⟩), if_neg (by omega)]
    omega
  · rw [e]
    have hmc : m ≤ c := h1.2 (by omega)
    rw [if_pos ⟨hmc, by intro hh; obtain ⟨rfl, h3⟩ := hh; omega⟩]
    omega
end Go.Proofs.YtjggmdlecdbeeaaGreatDoor
