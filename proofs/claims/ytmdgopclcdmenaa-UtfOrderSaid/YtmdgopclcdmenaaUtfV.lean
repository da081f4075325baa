/- The contracts of cmp.Compare, utf.high. -/
import Derived.Test.YtmdgopclcdmenaaUtfO
import Derived.Test.YtmdgopclcdmenaaUtfK
namespace Go.Proofs.Ytmdgopclcdmenaa
open Go.RowKit
set_option linter.unusedSimpArgs false
set_option linter.unusedVariables false

def sg (x y : Nat) : Int := if x < y then -1 else if y < x then 1 else 0
theorem isNaN_int (x : Int) (w : World) : Calls Try.prog 67 #[.int .i64 x] w fun e w' => e = .returned (.bool false) ∧ w = w' := by
  have h : (x != x) = false := by simp
  go_enter Try.func67, Try.ntmps67
  go_wp2
  go_ret
  exact ⟨rfl, rfl⟩
theorem cmp_int (x y : Nat) (w : World) : Calls Try.prog 57 #[.int .i64 x, .int .i64 y] w fun e w' => e = .returned (.int .i64 (sg x y)) ∧ w = w' := by
  rcases Nat.lt_trichotomy x y with h | h | h
  · have HV : Hid (sg x y = -1) := by unfold sg; rw [if_pos h]; exact rfl
    have d1 : decide (x < y) = true := by simp; omega
    have d2 : (x : Int) < y := by omega
    rw [HV.out]
    clear h
    go_enter Try.func57, Try.ntmps57
    go_wp2_with (go_at_call 67; (with_reducible refine (isNaN_int _ _).mono ?_); rintro e w' ⟨rfl, rfl⟩)
    go_ret
    exact ⟨rfl, rfl⟩
  · have HV : Hid (sg x y = 0) := by unfold sg; rw [if_neg (by omega), if_neg (by omega)]; exact rfl
    have d1 : decide (x < y) = false := by simp; omega
    have d2 : decide (y < x) = false := by simp; omega
    rw [HV.out]
    clear h
    go_enter Try.func57, Try.ntmps57
    go_wp2_with (go_at_call 67; (with_reducible refine (isNaN_int _ _).mono ?_); rintro e w' ⟨rfl, rfl⟩)
    go_ret
    exact ⟨rfl, rfl⟩
  · have HV : Hid (sg x y = 1) := by unfold sg; rw [if_neg (by omega), if_pos h]; exact rfl
    have d1 : decide (x < y) = false := by simp; omega
    have d2 : decide (y < x) = true := by simp; omega
    have d3 : (y : Int) < x := by omega
    rw [HV.out]
    clear h
    go_enter Try.func57, Try.ntmps57
    go_wp2_with (go_at_call 67; (with_reducible refine (isNaN_int _ _).mono ?_); rintro e w' ⟨rfl, rfl⟩)
    go_ret
    exact ⟨rfl, rfl⟩
theorem isNaN_byte (x : Int) (w : World) : Calls Try.prog 68 #[.int .u8 x] w fun e w' => e = .returned (.bool false) ∧ w = w' := by
  have h : (x != x) = false := by simp
  go_enter Try.func68, Try.ntmps68
  go_wp2
  go_ret
  exact ⟨rfl, rfl⟩
theorem cmp_byte (x y : Nat) (w : World) : Calls Try.prog 59 #[.int .u8 x, .int .u8 y] w fun e w' => e = .returned (.int .i64 (sg x y)) ∧ w = w' := by
  rcases Nat.lt_trichotomy x y with h | h | h
  · have HV : Hid (sg x y = -1) := by unfold sg; rw [if_pos h]; exact rfl
    have d1 : decide (x < y) = true := by simp; omega
    have d2 : (x : Int) < y := by omega
    rw [HV.out]
    clear h
    go_enter Try.func59, Try.ntmps59
    go_wp2_with (go_at_call 68; (with_reducible refine (isNaN_byte _ _).mono ?_); rintro e w' ⟨rfl, rfl⟩)
    go_ret
    exact ⟨rfl, rfl⟩
  · have HV : Hid (sg x y = 0) := by unfold sg; rw [if_neg (by omega), if_neg (by omega)]; exact rfl
    have d1 : decide (x < y) = false := by simp; omega
    have d2 : decide (y < x) = false := by simp; omega
    rw [HV.out]
    clear h
    go_enter Try.func59, Try.ntmps59
    go_wp2_with (go_at_call 68; (with_reducible refine (isNaN_byte _ _).mono ?_); rintro e w' ⟨rfl, rfl⟩)
    go_ret
    exact ⟨rfl, rfl⟩
  · have HV : Hid (sg x y = 1) := by unfold sg; rw [if_neg (by omega), if_pos h]; exact rfl
    have d1 : decide (x < y) = false := by simp; omega
    have d2 : decide (y < x) = true := by simp; omega
    have d3 : (y : Int) < x := by omega
    rw [HV.out]
    clear h
    go_enter Try.func59, Try.ntmps59
    go_wp2_with (go_at_call 68; (with_reducible refine (isNaN_byte _ _).mono ?_); rintro e w' ⟨rfl, rfl⟩)
    go_ret
    exact ⟨rfl, rfl⟩
theorem isNaN_string (a : List UInt8) (w : World) : Calls Try.prog 66 #[.string ⟨a.toArray⟩] w fun e w' => e = .returned (.bool false) ∧ w = w' := by
  have h : (a == a) = true := by simp
  go_enter Try.func66, Try.ntmps66
  go_wp2
  go_ret
  exact ⟨rfl, rfl⟩
theorem less_bcmp : ∀ a b : List UInt8, Op.bytesLess a b = decide (bcmp a b = -1)
  | [], [] => rfl
  | [], _ :: _ => rfl
  | _ :: _, [] => rfl
  | a :: x, b :: y => by
    have ih := less_bcmp x y
    simp only [Op.bytesLess, ih]
    unfold bcmp
    simp only [List.map_cons, cmpL]
    by_cases h1 : a.toNat < b.toNat
    · rw [if_pos h1]; simp [UInt8.lt_iff_toNat_lt, h1]
    · rw [if_neg h1]
      by_cases h2 : b.toNat < a.toNat
      · rw [if_pos h2]
        have : a ≠ b := fun h => by subst h; omega
        simp [UInt8.lt_iff_toNat_lt, h1, this]
      · rw [if_neg h2]
        have : a = b := UInt8.toNat_inj.1 (by omega)
        subst this
        simp [UInt8.lt_iff_toNat_lt]
theorem bcmp_zero : ∀ a b : List UInt8, bcmp a b = 0 → a = b
  | [], [], _ => rfl
  | [], _ :: _, h => absurd h (by unfold bcmp; simp only [List.map_cons, List.map_nil, cmpL]; decide)
  | _ :: _, [], h => absurd h (by unfold bcmp; simp only [List.map_cons, List.map_nil, cmpL]; decide)
  | a :: x, b :: y, h => by
    unfold bcmp at h
    simp only [List.map_cons, cmpL] at h
    by_cases h1 : a.toNat < b.toNat
    · rw [if_pos h1] at h; exact absurd h (by decide)
    · rw [if_neg h1] at h
      by_cases h2 : b.toNat < a.toNat
      · rw [if_pos h2] at h; exact absurd h (by decide)
      · rw [if_neg h2] at h
        rw [bcmp_zero x y h, show a = b from UInt8.toNat_inj.1 (by omega)]
theorem bcmp_self (a : List UInt8) : bcmp a a = 0 := cmpL_self _
theorem cmp_string (a b : List UInt8) (w : World) : Calls Try.prog 56 #[.string ⟨a.toArray⟩, .string ⟨b.toArray⟩] w fun e w' => e = .returned (.int .i64 (bcmp a b)) ∧ w = w' := by
  have h1 := less_bcmp a b
  have h2 := less_bcmp b a
  have h3 : bcmp b a = - bcmp a b := cmpL_anti _ _
  rw [h3] at h2
  have heq : (a == b) = decide (bcmp a b = 0) := by
    by_cases h : a = b
    · subst h; simp [bcmp_self]
    · have h0 : ¬ bcmp a b = 0 := fun e => h (bcmp_zero a b e)
      simp [h, h0]
  rcases cmpL_range (a.map UInt8.toNat) (b.map UInt8.toNat) with h | h | h
  all_goals
    have h : bcmp a b = _ := h
    rw [h] at h1 h2 heq ⊢
    simp only [decide_true, decide_false, reduceCtorEq, Int.reduceNeg, Int.reduceEq] at h1 h2 heq
    clear h h3
    go_enter Try.func56, Try.ntmps56
    go_wp2_with (go_at_call 66; (with_reducible refine (isNaN_string _ _).mono ?_); rintro e w' ⟨rfl, rfl⟩)
    go_ret
    exact ⟨rfl, rfl⟩
theorem high_any (c : Nat) (w : World) (hc : c < 256) : Calls Try.prog 58 #[.int .u8 c] w fun e w' => e = .returned (.bool (decide (240 ≤ c))) ∧ w = w' := by
  go_enter Try.func58, Try.ntmps58
  go_wp2
  go_ret
  exact ⟨by simp; omega, rfl⟩
end Go.Proofs.Ytmdgopclcdmenaa
