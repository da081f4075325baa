/- The reference's Float: a float's bits as a whole number and a power of two. -/
import Derived.Test.YtjggmdlecdbeeaaDoorRefE
import Derived.Test.YtjggmdlecdbeeaaDoorRat
namespace Go.Proofs.YtjggmdlecdbeeaaDoor
open Go.RowKit
set_option linter.unusedSimpArgs false
set_option linter.unusedVariables false

def fltM (b : Nat) : Nat := if b / 4503599627370496 = 0 then b % 4503599627370496 else b % 4503599627370496 + 4503599627370496
def fltK (b : Nat) : Int := if b / 4503599627370496 = 0 then -1074 else ((b / 4503599627370496 : Nat) : Int) - 1075
theorem and_low (a k : Nat) (ha : a < W64) (hk : 2 ^ k - 1 < W64) : bits .and .u64 (a : Int) ((2 ^ k - 1 : Nat) : Int) = ((a % 2 ^ k : Nat) : Int) := by
  have h := bits_and_u64_nat a (2 ^ k - 1) ha hk
  rwa [Nat.and_two_pow_sub_one_eq_mod] at h

set_option maxRecDepth 1000000 in
theorem rfloat_any (b : Nat) (w : World) (hb : b < 9218868437227405312) :
    Calls Tryd.prog 41 #[.int .u64 b] w fun e w' => e = .returned (.tuple #[.int .u64 (fltM b : Nat), .int .i64 (fltK b)]) ∧ w = w' := by
  have e1 : (b : Int) / 4503599627370496 = ((b / 4503599627370496 : Nat) : Int) := by omega
  have hq : b / 4503599627370496 < 2047 := by omega
  have e2 : bits .and .u64 ((b / 4503599627370496 : Nat) : Int) 2047 = ((b / 4503599627370496 : Nat) : Int) := by
    have h := and_low (b / 4503599627370496) 11 (by unfold W64; omega) (by decide)
    rw [Nat.mod_eq_of_lt (by omega)] at h
    exact h
  have e3 : bits .and .u64 (b : Int) 4503599627370495 = ((b % 4503599627370496 : Nat) : Int) := and_low b 52 (by unfold W64; omega) (by decide)
  have hr : b % 4503599627370496 < 4503599627370496 := Nat.mod_lt _ (by decide)
  have hbI : (b : Int) ≤ 9218868437227405312 := by omega
  unfold fltM fltK
  generalize b / 4503599627370496 = q at *
  generalize b % 4503599627370496 = r at *
  have hqI : (q : Int) ≤ 2047 := by omega
  have hrI : (r : Int) < 4503599627370496 := by omega
  clear hb
  by_cases h0 : q = 0
  · subst h0
    rw [if_pos rfl, if_pos rfl]
    have e0 : ((0 : Nat) : Int) = 0 := rfl
    rw [e0] at e1 e2
    clear hr hq hqI e0
    go_enter Tryd.func41, Tryd.ntmps41
    go_wp2_with fail
    exact bodyPost_ret (v := .tuple #[.int .u64 (r : Int), .int .i64 (-1074)]) (by simp [results, Tryd.results41, go_sem]) rfl ⟨rfl, rfl⟩
  · have t : ((q : Int) == 0) = false := by rw [beq_eq_false_iff_ne]; omega
    rw [if_neg h0, if_neg h0]
    have e4 : IntKind.u64.wrap ((r : Int) + 4503599627370496) = ((r + 4503599627370496 : Nat) : Int) := by rw [show (r : Int) + 4503599627370496 = ((r + 4503599627370496 : Nat) : Int) by omega]; exact wrapN _ (by unfold W64; omega)
    have e5 : IntKind.i64.wrap ((q : Int) - 1075) = (q : Int) - 1075 := IntWalk.i64_in _ (by omega)
    clear hr hq h0
    go_enter Tryd.func41, Tryd.ntmps41
    go_wp2_with fail
    exact bodyPost_ret (v := .tuple #[.int .u64 ((r : Int) + 4503599627370496), .int .i64 ((q : Int) - 1075)]) (by simp [results, Tryd.results41, go_sem]) rfl ⟨rfl, rfl⟩
end Go.Proofs.YtjggmdlecdbeeaaDoor
