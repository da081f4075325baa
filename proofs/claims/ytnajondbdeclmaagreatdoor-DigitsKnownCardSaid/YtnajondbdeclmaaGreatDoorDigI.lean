/- The program's digits: a float as ECMAScript writes it (Text), where it is no small whole number. Plain: a float without what lies behind its point; the whole number that it becomes. The program's digits: what Text asks about a float; Trunc of any. The program's digits: Text of any float. -/
import Derived.Test.YtnajondbdeclmaaGreatDoorDigE
import Derived.Test.YtnajondbdeclmaaGreatDoorDecW
import Derived.Test.YtnajondbdeclmaaGreatDoorBytes
import Derived.Test.YtnajondbdeclmaaGreatDoorTab
import Derived.Test.YtnajondbdeclmaaGreatDoorLitP
import Derived.Lib.ItoaLen
import Derived.Test.YtnajondbdeclmaaGreatDoorDecS
import Derived.Test.YtnajondbdeclmaaGreatDoorFltQ
namespace Go.Proofs.YtnajondbdeclmaaGreatDoor
open Go.RowKit
set_option linter.unusedSimpArgs false
set_option linter.unusedVariables false

/-- Digits with an exponent, as ECMAScript writes them. -/
def textR (g : Bool) (d : List UInt8) (n : Int) : List UInt8 :=
  gS g ++ (if (d.length : Int) ≤ n ∧ n ≤ 21 then d ++ List.replicate (n - d.length).toNat 48
    else if 0 < n ∧ n ≤ 21 then (d.take n.toNat ++ [46]) ++ d.drop n.toNat
    else if -6 < n ∧ n ≤ 0 then ([48, 46] ++ List.replicate (-n).toNat 48) ++ d
    else ((d.take 1 ++ (if 1 < d.length then 46 :: d.drop 1 else [])) ++ (if 0 < n then [101, 43] else [101])) ++ Lib.itoa (n - 1))

theorem rep_rep' (c : Nat) : Lib.repeatL [48] c = List.replicate c 48 := by
  induction c with
  | zero => rfl
  | succ c ih => rw [Lib.repeatL, ih, List.replicate_succ]; rfl
theorem repeat_d (c : Nat) (hc : c ≤ 100000) (w : World) :
    Calls Tryz.prog 70 #[.string ⟨#[48]⟩, .int .i64 c] w fun e w' => e = .returned (.string ⟨(List.replicate c 48).toArray⟩) ∧ Below w.heap.size w w' := by
  rcases Nat.lt_or_ge c 2 with h | h
  · rcases Nat.lt_or_ge c 1 with h1 | h1
    · obtain rfl : c = 0 := by omega
      exact (Tryz.strings_Repeat_zero ⟨#[48]⟩ w).mono fun e w' ⟨h1, h2⟩ => ⟨h1, by rw [h2]; exact Below.refl _ _⟩
    · obtain rfl : c = 1 := by omega
      exact (Tryz.strings_Repeat_one ⟨#[48]⟩ w).mono fun e w' ⟨h1, h2⟩ => ⟨h1, by rw [h2]; exact Below.refl _ _⟩
  · have h1 := Tryz.strings_Repeat_main ⟨#[48]⟩ c w h (by omega) (by show 1 * c ≤ _; omega) (by decide)
    have e : (⟨#[48]⟩ : ByteArray).data.toList = [48] := rfl
    rw [e, rep_rep'] at h1
    exact h1
theorem itoa_d (n : Int) (h0 : -9223372036854775808 ≤ n) (h1 : n ≤ 9223372036854775807) (w : World) (ht : Tab w) :
    Calls Tryz.prog 35 #[.int .i64 n] w fun e w' => e = .returned (.string ⟨(Lib.itoa n).toArray⟩) ∧ Below w.heap.size w w' :=
  (Tryz.strconv_Itoa n h0 h1 w ht.here).mono fun e w' ⟨he, k, os, hw⟩ => ⟨he, by subst hw; exact Lib.below_grow _ _ (Nat.le_refl _) _ _⟩

theorem call_trunc (n t : Nat) (w : World) (h : ∀ w : World, (Extern.MathFloor.toIntegral "math.archTrunc" .zero #[.float .f64 n]).run Tryz.prog w = .ok (.float .f64 t) w) :
    (callFunc 104 #[.float .f64 n]).run Tryz.prog w = .ok (.value (.float .f64 t)) w := by
  rw [run_callFunc_extern Tryz.func104 (by kernel_rfl) (by kernel_rfl) (by kernel_rfl) (e := Extern.MathFloor.toIntegral "math.archTrunc" .zero) (by kernel_rfl)]
  have := h w
  simp [go_sem, this]
theorem third_int (w : World) : (Extern.MathFloor.toIntegral "math.archTrunc" .zero #[.float .f64 4599676419421066581]).run Tryz.prog w = .ok (.float .f64 0) w := by kernel_rfl
set_option maxRecDepth 100000 in
theorem trunc_any (n t : Nat) (w : World) (h : ∀ w : World, (Extern.MathFloor.toIntegral "math.archTrunc" .zero #[.float .f64 n]).run Tryz.prog w = .ok (.float .f64 t) w) :
    Calls Tryz.prog 67 #[.float .f64 n] w fun e w' => e = .returned (.float .f64 t) ∧ w = w' := by
  have c := fun W => call_trunc n t W h
  clear h
  go_enter Tryz.func67, Tryz.ntmps67
  go_wp2_with fail
  go_ret
  exact ⟨rfl, rfl⟩
end Go.Proofs.YtnajondbdeclmaaGreatDoor

namespace Go.Proofs.YtnajondbdeclmaaGreatDoor
open Go.RowKit
set_option linter.unusedSimpArgs false
set_option linter.unusedVariables false

theorem read_form (x : Nat) (h1 : x < 18446744073709551616) (h2 : x % 9223372036854775808 ≤ most) :
    FloatKind.f64.format.read x = .number (decide (9223372036854775808 ≤ x)) (fltM (x % 9223372036854775808)) (fltK (x % 9223372036854775808)) := by
  have hs : (x / 9223372036854775808 % 2 == 1) = decide (9223372036854775808 ≤ x) := by
    rw [Bool.eq_iff_iff]; simp; omega
  unfold Ieee.Format.read
  rw [f64_sign, f64_binade, f64_inf, f64_least, hs]
  have hm : x % 9223372036854775808 < 9218868437227405312 := by unfold most at h2; omega
  generalize x % 9223372036854775808 = r at *
  unfold fltM fltK
  by_cases hr : r < 4503599627370496
  · simp only [if_pos hr]
    rw [if_pos (by omega), if_pos (by omega), Nat.mod_eq_of_lt hr]
  · simp only [if_neg hr, if_pos hm]
    rw [if_neg (by omega), if_neg (by omega), Nat.add_comm]
    congr 1
    omega
theorem cut_zero (s : Bool) (m d : Nat) : Ieee.Toward.zero.cut s m d = m / 2 ^ d := by
  show m / 1 <<< min d (m.log2 + 2) + 0 = _
  rw [Nat.add_zero, Nat.shiftLeft_eq, Nat.one_mul]
  by_cases h : d ≤ m.log2 + 2
  · rw [Nat.min_eq_left h]
  · rw [Nat.min_eq_right (by omega)]
    have hl : m < 2 ^ (m.log2 + 1) := Nat.lt_log2_self
    rw [Nat.div_eq_of_lt (Nat.lt_of_lt_of_le hl (Nat.pow_le_pow_right (by decide) (by omega))), Nat.div_eq_of_lt (Nat.lt_of_lt_of_le hl (Nat.pow_le_pow_right (by decide) (by omega)))]
theorem cut_none (s : Bool) (m : Nat) : Ieee.Toward.even.cut s m 0 = m := by
  show m / 1 <<< min 0 (m.log2 + 2) + (decide (1 <<< min 0 (m.log2 + 2) < 2 * (m % 1 <<< min 0 (m.log2 + 2))) || (1 <<< min 0 (m.log2 + 2) == 2 * (m % 1 <<< min 0 (m.log2 + 2)) && m / 1 <<< min 0 (m.log2 + 2) % 2 == 1)).toNat = m
  rw [Nat.min_eq_left (Nat.zero_le _)]
  simp [Nat.mod_one]
/-- A whole number below two to the power 53, as a float. -/
theorem word_of (s : Bool) (k u : Nat) (hu : u = 1074) (hk : k < 9007199254740992) : ∃ x, FloatKind.f64.format.write (.number s k 0) = FloatKind.f64.format.word s x ∧ x < 4845873199050653696 ∧ Fl x = k * 2 ^ u := by
  show ∃ x, FloatKind.f64.format.nearest s k 0 = _ ∧ _ ∧ _
  unfold Ieee.Format.nearest
  by_cases h : k = 0
  · exact ⟨0, by rw [if_pos h], by decide, by rw [h, Nat.zero_mul]; rfl⟩
  · rw [if_neg h, f64_least, f64_inf, f64_binade]
    have hfr : FloatKind.f64.format.fractionBits = 52 := rfl
    rw [hfr]
    have l1 : 2 ^ k.log2 ≤ k := Nat.log2_self_le h
    have l2 : k < 2 ^ (k.log2 + 1) := Nat.lt_log2_self
    have l3 : k.log2 < 53 := (Nat.log2_lt h).2 hk
    generalize k.log2 = l at *
    obtain ⟨e, he⟩ : ∃ e, e = 52 - l := ⟨_, rfl⟩
    have e1 : max ((0 : Int) + (l : Int) - ((52 : Nat) : Int)) (-1074) = -(e : Int) := by omega
    simp only [e1]
    have e2 : (0 - -(e : Int)).toNat = e := by omega
    have e3 : (-(e : Int) - 0).toNat = 0 := by omega
    have e4 : (-(e : Int) - -1074).toNat = l + 1022 := by omega
    rw [e2, e3, e4, cut_none, Nat.shiftLeft_eq]
    have hm1 : P52 ≤ k * 2 ^ e := by
      rw [P52_pow, show 52 = l + e by omega, Nat.pow_add]
      exact Nat.mul_le_mul_right _ l1
    have hm2 : k * 2 ^ e < 2 * P52 := by
      have : 2 * P52 = 2 ^ (l + 1) * 2 ^ e := by rw [P52_pow, ← Nat.pow_add, show l + 1 + e = 52 + 1 by omega, Nat.pow_succ, Nat.mul_comm]
      rw [this]
      exact Nat.mul_lt_mul_of_pos_right l2 (Nat.pow_pos (by decide))
    have hx : (l + 1022) * 4503599627370496 + k * 2 ^ e < 4845873199050653696 := by
      unfold P52 at hm1 hm2
      generalize k * 2 ^ e = z at *
      omega
    refine ⟨(l + 1022) * 4503599627370496 + k * 2 ^ e, ?_, hx, ?_⟩
    · rw [Nat.min_eq_left (by omega)]
    · have := Fl_at (j := l + 1022) (m := k * 2 ^ e) (.inr hm1) hm2
      unfold P52 at this
      rw [this, Nat.mul_assoc, ← Nat.pow_add, show e + (l + 1022) = u by omega]
/-- A whole number below two to the power 53 with a sign: a float's bits. -/
theorem word_sv (s : Bool) (k u : Nat) (hu : u = 1074) (hk : k < 9007199254740992) : ∃ t, FloatKind.f64.format.write (.number s k 0) = t ∧ t < 18446744073709551616 ∧ t % 9223372036854775808 < 4845873199050653696 ∧ svI t = if s then -((k * 2 ^ u : Nat) : Int) else ((k * 2 ^ u : Nat) : Int) := by
  obtain ⟨x, h1, h2, h3⟩ := word_of s k u hu hk
  refine ⟨_, h1, ?_⟩
  unfold Ieee.Format.word
  rw [f64_sign]
  cases s
  · rw [if_neg (by decide), if_neg (by decide)]
    refine ⟨by omega, by omega, ?_⟩
    unfold svI
    rw [if_pos (by omega), h3]
  · rw [if_pos rfl, if_pos rfl]
    refine ⟨by omega, by omega, ?_⟩
    unfold svI
    rw [if_neg (by omega), Nat.add_sub_cancel_left, h3]
theorem fl_bound {b u : Nat} (hu : u = 1074) (h : b < 4845873199050653696) : Fl b < 9007199254740992 * 2 ^ u := by
  obtain ⟨x, _, h2, h3⟩ := word_of false 9007199254740991 u hu (by decide)
  have e : Fl 4845873199050653696 = 9007199254740992 * 2 ^ u := by
    have := Fl_at (j := 1075) (m := 4503599627370496) (.inr (Nat.le_refl _)) (by decide)
    rw [show 4845873199050653696 = 1075 * P52 + 4503599627370496 from rfl, this, show 1075 = u + 1 by omega, Nat.pow_succ]
    omega
  rw [← e]
  exact Fl_lt.2 h
/-- The whole number that lies in a float's size. -/
def wholeF (b : Nat) : Nat := Fl b / 2 ^ 1074
def isWhole (b : Nat) : Bool := decide (b < 4845873199050653696 ∧ Fl b % 2 ^ 1074 = 0)
theorem whole_lt {b u : Nat} (hu : u = 1074) (h : b < 4845873199050653696) : Fl b / 2 ^ u < 9007199254740992 :=
  Nat.div_lt_of_lt_mul (by rw [Nat.mul_comm]; exact fl_bound hu h)
theorem whole_cut {b u : Nat} (hu : u = 1074) (h : b < 4845873199050653696) : fltM b <<< (fltK b).toNat / 2 ^ (-fltK b).toNat = Fl b / 2 ^ u := by
  obtain ⟨h1, _, h3, _⟩ := flt_form b u hu
  have hK : fltK b ≤ 0 := by unfold fltK; split <;> omega
  have e0 : (fltK b).toNat = 0 := by omega
  rw [e0, Nat.shiftLeft_eq, Nat.pow_zero, Nat.mul_one, ← h1]
  have e : 2 ^ u = 2 ^ (fltK b + (u : Nat)).toNat * 2 ^ (-fltK b).toNat := by
    rw [← Nat.pow_add]
    congr 1
    omega
  rw [e, Nat.mul_comm (fltM b), Nat.mul_div_mul_left _ _ (Nat.pow_pos (by decide))]
/-- Trunc of a float below two to the power 53. -/
theorem trunc_small {n u : Nat} (hu : u = 1074) (hn : n < 18446744073709551616) (h : n % 9223372036854775808 < 4845873199050653696) :
    ∃ t, FloatKind.f64.encode ((FloatKind.f64.decode n).integral .zero) = t ∧ FloatKind.f64.format.order n t = some (if Fl (n % 9223372036854775808) % 2 ^ u = 0 then .eq else if n < 9223372036854775808 then .gt else .lt) := by
  have hm : n % 9223372036854775808 ≤ most := by unfold most; omega
  unfold FloatKind.decode FloatKind.encode
  rw [read_form n hn hm]
  show ∃ t, FloatKind.f64.format.write (.number _ (Ieee.Toward.zero.cut _ _ _) 0) = _ ∧ _
  rw [cut_zero, whole_cut hu h]
  obtain ⟨t, h1, h2, h3, h4⟩ := word_sv (decide (9223372036854775808 ≤ n)) (Fl (n % 9223372036854775808) / 2 ^ u) u hu (whole_lt hu h)
  refine ⟨t, h1, ?_⟩
  rw [order_sv hn hm h2 (by unfold most; omega), h4]
  have hsv : svI n = if n < 9223372036854775808 then (Fl (n % 9223372036854775808) : Int) else -(Fl (n % 9223372036854775808) : Int) := by
    unfold svI
    by_cases hs : n < 9223372036854775808
    · rw [if_pos hs, if_pos hs, Nat.mod_eq_of_lt hs]
    · rw [if_neg hs, if_neg hs, show n % 9223372036854775808 = n - 9223372036854775808 by omega]
  rw [hsv]
  have hd := Nat.div_add_mod (Fl (n % 9223372036854775808)) (2 ^ u)
  rw [Nat.mul_comm] at hd
  generalize Fl (n % 9223372036854775808) / 2 ^ u * 2 ^ u = A at *
  generalize Fl (n % 9223372036854775808) % 2 ^ u = R at *
  generalize Fl (n % 9223372036854775808) = B at *
  by_cases hs : n < 9223372036854775808
  · have hs' : ¬ 9223372036854775808 ≤ n := by omega
    simp only [hs, hs', decide_false, if_true, if_false, Bool.false_eq_true]
    rw [if_neg (by omega)]
    by_cases hr : R = 0
    · rw [if_pos hr, if_pos (by omega)]
    · rw [if_neg hr, if_neg (by omega)]
  · have hs' : 9223372036854775808 ≤ n := by omega
    simp only [hs, hs', decide_true, if_true, if_false]
    by_cases hr : R = 0
    · rw [if_pos hr, if_neg (by omega), if_pos (by omega)]
    · rw [if_neg hr, if_pos (by omega)]
theorem toint_small {n u : Nat} (hu : u = 1074) (hn : n < 18446744073709551616) (h : n % 9223372036854775808 < 4845873199050653696) :
    (FloatKind.f64.decode n).toInt .zero = some (if n < 9223372036854775808 then ((Fl (n % 9223372036854775808) / 2 ^ u : Nat) : Int) else -((Fl (n % 9223372036854775808) / 2 ^ u : Nat) : Int)) := by
  have hm : n % 9223372036854775808 ≤ most := by unfold most; omega
  unfold FloatKind.decode
  rw [read_form n hn hm]
  show some (Ieee.signed _ (Ieee.Toward.zero.cut _ _ _) 0) = _
  rw [cut_zero, whole_cut hu h]
  unfold Ieee.signed
  rw [Nat.shiftLeft_zero]
  by_cases hs : n < 9223372036854775808
  · rw [if_neg (by simp; omega), if_pos hs]
  · rw [if_pos (by simp; omega), if_neg hs]
end Go.Proofs.YtnajondbdeclmaaGreatDoor

namespace Go.Proofs.YtnajondbdeclmaaGreatDoor
open Go.RowKit
set_option linter.unusedSimpArgs false
set_option linter.unusedVariables false

theorem fint_d (n : Int) (h0 : -9223372036854775808 ≤ n) (h1 : n ≤ 9223372036854775807) (w : World) (ht : Tab w) :
    Calls Tryz.prog 69 #[.int .i64 n, .int .i64 10] w fun e w' => e = .returned (.string ⟨(Lib.itoa n).toArray⟩) ∧ Below w.heap.size w w' :=
  (Tryz.strconv_FormatInt_10 n h0 h1 w ht.here).mono fun e w' ⟨he, k, os, hw⟩ => ⟨he, by subst hw; exact Lib.below_grow _ _ (Nat.le_refl _) _ _⟩
/-- A float without what lies behind its point, by its datum. -/
def truncD (x : Nat) (d : Ieee.Datum) : Sem Value :=
  match d with
  | .nan s t =>
    if FloatKind.f64.format.quiet t = t then pure (.float .f64 x) else do
    let kept ← choose (.extern "math.Floor,Ceil,Trunc,RoundToEven.signallingNaN kept" 2)
    pure (.float .f64 (if kept == 1 then x else FloatKind.f64.encode (.nan s (FloatKind.f64.format.quiet t))))
  | d => pure (.float .f64 (FloatKind.f64.encode (d.integral .zero)))
theorem trunc_eq (x : Nat) : Extern.MathFloor.toIntegral "math.archTrunc" .zero #[.float .f64 x] = truncD x (FloatKind.f64.decode x) := by kernel_rfl
theorem trunc_run (n : Nat) (W : World) : ∃ t W', (Extern.MathFloor.toIntegral "math.archTrunc" .zero #[.float .f64 n]).run Tryz.prog W = .ok (.float .f64 t) W' ∧ (W' = W ∨ W' = W.drew) := by
  rw [trunc_eq]
  cases FloatKind.f64.decode n with
  | number s m e => exact ⟨_, _, rfl, .inl rfl⟩
  | infinity s => exact ⟨_, _, rfl, .inl rfl⟩
  | nan s t =>
    by_cases h : FloatKind.f64.format.quiet t = t
    · refine ⟨n, W, ?_, .inl rfl⟩
      unfold truncD
      dsimp only
      rw [if_pos h]
      rfl
    · have := fun (v : Nat → Value) => show ((do let kept ← choose (.extern "math.Floor,Ceil,Trunc,RoundToEven.signallingNaN kept" 2); pure (v kept) : Sem Value)).run Tryz.prog W = .ok (v ((Question.extern "math.Floor,Ceil,Trunc,RoundToEven.signallingNaN kept" 2).cut (W.tape W.drawn (.extern "math.Floor,Ceil,Trunc,RoundToEven.signallingNaN kept" 2)))) W.drew from by
        simp [go_sem]
      have e : truncD n (.nan s t) = (do let kept ← choose (.extern "math.Floor,Ceil,Trunc,RoundToEven.signallingNaN kept" 2); pure (.float .f64 (if kept == 1 then n else FloatKind.f64.encode (.nan s (FloatKind.f64.format.quiet t))))) := by
        unfold truncD
        dsimp only
        rw [if_neg h]
      rw [e]
      exact ⟨_, W.drew, this (fun kept => .float .f64 (if kept == 1 then n else FloatKind.f64.encode (.nan s (FloatKind.f64.format.quiet t)))), .inr rfl⟩
theorem trunc_eqs (n : Nat) : ∃ (f : World → Nat) (g : World → World), ∀ W, (Extern.MathFloor.toIntegral "math.archTrunc" .zero #[.float .f64 n]).run Tryz.prog W = .ok (.float .f64 (f W)) (g W) ∧ (g W = W ∨ g W = W.drew) :=
  ⟨fun W => Classical.choose (trunc_run n W), fun W => Classical.choose (Classical.choose_spec (trunc_run n W)), fun W => Classical.choose_spec (Classical.choose_spec (trunc_run n W))⟩
set_option maxRecDepth 100000 in
/-- Trunc of any float gives a float. -/
theorem trunc_all (n : Nat) (w : World) :
    Calls Tryz.prog 67 #[.float .f64 n] w fun e w' => ∃ t, e = .returned (.float .f64 t) ∧ Below w.heap.size w w' := by
  obtain ⟨f, g, h⟩ := trunc_eqs n
  have c : ∀ W, (callFunc 104 #[.float .f64 n]).run Tryz.prog W = .ok (.value (.float .f64 (f W))) (g W) := by
    intro W
    rw [run_callFunc_extern Tryz.func104 (by kernel_rfl) (by kernel_rfl) (by kernel_rfl) (e := Extern.MathFloor.toIntegral "math.archTrunc" .zero) (by kernel_rfl)]
    simp [go_sem, (h W).1]
  have hb : ∀ W, Below W.heap.size W (g W) := by
    intro W
    rcases (h W).2 with e | e <;> rw [e]
    · exact Below.refl _ _
    · exact (Below.refl _ _).drew
  clear h
  go_enter Tryz.func67, Tryz.ntmps67
  go_wp2_with fail
  go_ret
  exact ⟨_, rfl, hb _⟩
end Go.Proofs.YtnajondbdeclmaaGreatDoor

namespace Go.Proofs.YtnajondbdeclmaaGreatDoor
open Go.RowKit
set_option linter.unusedSimpArgs false
set_option linter.unusedVariables false

theorem conv_eq (n : Nat) (W : World) : (convert 34 2 (.float .f64 n)).run Tryz.prog W = (Conv.floatToInt .f64 n .i64).run Tryz.prog W := by kernel_rfl
theorem conv_small {n : Nat} {v : Int} (W : World) (h : (FloatKind.f64.decode n).toInt .zero = some v) (h0 : -9223372036854775808 ≤ v) (h1 : v ≤ 9223372036854775807) :
    (convert 34 2 (.float .f64 n)).run Tryz.prog W = .ok (.int .i64 v) W := by
  have hf : (Conv.floatToInt .f64 n .i64).run Tryz.prog W = .ok (.int .i64 v) W := by
    unfold Conv.floatToInt
    rw [h]
    show (if IntKind.i64.min ≤ v ∧ v ≤ IntKind.i64.max then (pure (.int .i64 v) : Sem Value) else _).run _ _ = _
    rw [if_pos ⟨h0, h1⟩]
    rfl
  rw [conv_eq, hf]
/-- The whole number that a float is. -/
def wholeI (n : Nat) : Int := if n < 9223372036854775808 then (wholeF (n % 9223372036854775808) : Int) else -(wholeF (n % 9223372036854775808) : Int)
set_option maxRecDepth 100000 in
theorem text_whole (n : Nat) (w : World) (hn : n < 18446744073709551616) (hw : isWhole (n % 9223372036854775808) = true) (ht : Tab w) :
    Calls Tryz.prog 17 #[.float .f64 n] w fun e w' => e = .returned (.tuple #[.string ⟨(Lib.itoa (wholeI n)).toArray⟩, .nilIface]) ∧ Below w.heap.size w w' := by
  obtain ⟨u, hu⟩ : ∃ u, u = 1074 := ⟨_, rfl⟩
  obtain ⟨h1, h2⟩ := of_decide_eq_true hw
  rw [← hu] at h2
  obtain ⟨t, ht1, ht2⟩ := trunc_small hu hn h1
  rw [if_pos h2] at ht2
  have hv := toint_small hu hn h1
  have hb := whole_lt hu h1
  have ev : (if n < 9223372036854775808 then ((Fl (n % 9223372036854775808) / 2 ^ u : Nat) : Int) else -((Fl (n % 9223372036854775808) / 2 ^ u : Nat) : Int)) = wholeI n := by subst hu; rfl
  rw [ev] at hv
  have hbI : -9223372036854775808 ≤ wholeI n ∧ wholeI n ≤ 9223372036854775807 := by
    rw [← ev]
    clear ev hv
    generalize Fl (n % 9223372036854775808) / 2 ^ u = q at *
    split <;> omega
  have HC : ∀ W : World, (convert 34 2 (.float .f64 n)).run Tryz.prog W = .ok (.int .i64 (wholeI n)) W := fun W => conv_small W hv hbI.1 hbI.2
  have HF := Lib.hid (fun W (ht : Tab W) => fint_d (wholeI n) hbI.1 hbI.2 W ht)
  have hm : n % 9223372036854775808 ≤ most := by unfold most; omega
  have HT := Lib.hid (fun W => trunc_any n t W (fun w => by
    rw [trunc_eq]
    unfold FloatKind.decode FloatKind.encode at ht1
    unfold truncD FloatKind.decode FloatKind.encode
    rw [read_form n hn hm] at ht1 ⊢
    dsimp only
    rw [ht1]
    rfl))
  have HA := Lib.hid (fun W => abs_any n W hn)
  have ho : FloatKind.f64.format.order (n % 9223372036854775808) 4845873199050653696 = some .lt := by
    rw [order_sv (by omega) (by rw [Nat.mod_mod]; exact hm) (by decide) (by decide), if_pos]
    unfold svI
    rw [if_pos (by omega), if_pos (by decide)]
    exact Int.ofNat_lt.2 (Fl_lt.2 h1)
  have HTab := Lib.hid ht
  generalize wholeI n = v at *
  generalize n % 9223372036854775808 = b at *
  clear hw h1 h2 ht1 hv hb ev hbI hm ht hn
  go_enter Tryz.func17, Tryz.ntmps17
  go_wp2_with fail
  refine (HT.out _).mono ?_
  rintro e w1 ⟨rfl, rfl⟩
  go_wp2_with fail
  refine (HA.out _).mono ?_
  rintro e w1 ⟨rfl, rfl⟩
  go_wp2_with fail
  refine (HF.out _ HTab.out).mono ?_
  rintro e w1 ⟨rfl, hb1⟩
  go_wp2_with fail
  go_ret2
  exact ⟨rfl, hb1⟩
end Go.Proofs.YtnajondbdeclmaaGreatDoor
