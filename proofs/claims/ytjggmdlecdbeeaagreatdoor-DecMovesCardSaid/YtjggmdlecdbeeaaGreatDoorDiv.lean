/- The contract of bits.Div64. -/
import Derived.Test.YtjggmdlecdbeeaaGreatDoorBits
import Derived.Test.YtjggmdlecdbeeaaGreatDoorDivP
import Derived.Deep.QuietTactic
import Derived.BigQuiet
import Derived.Deep.CutBlock
import Derived.Deep.CutRange
namespace Go.Proofs.YtjggmdlecdbeeaaGreatDoor
open Go.RowKit
set_option linter.unusedSimpArgs false
set_option linter.unusedVariables false

theorem castE {a : Int} {n : Nat} (h : a = (n : Int)) (h2 : n < W64) : IntKind.u64.wrap a = (n : Int) := by rw [h]; exact wrapN n h2

theorem wrapD {A B C : Nat} (h : A = B + C) (hC : C < W64) : IntKind.u64.wrap (((A % W64 : Nat) : Int) - ((B % W64 : Nat) : Int)) = (C : Int) := by
  unfold W64 at *
  rw [IntKind.wrap_u64]
  omega
theorem maskN (a : Nat) (ha : a < W64) : bits .and .u64 (a : Int) 4294967295 = ((a % 4294967296 : Nat) : Int) := by
  have h := bits_and_u64_nat a 4294967295 ha (by omega)
  have e : a &&& 4294967295 = a % 4294967296 := Nat.and_two_pow_sub_one_eq_mod a 32
  rw [e] at h
  exact h
theorem orN {H L s : Nat} (h : ∃ k, H = k * 2 ^ s) (hL : L < 2 ^ s) (hH : H + L < W64) : bits .or .u64 (H : Int) (L : Int) = ((H + L : Nat) : Int) := by
  obtain ⟨k, rfl⟩ := h
  have h1 : (BitVec.ofInt 64 ((k * 2 ^ s : Nat) : Int)).toNat = k * 2 ^ s := by
    rw [BitVec.ofInt_natCast, BitVec.toNat_ofNat]; exact Nat.mod_eq_of_lt (by unfold W64 at hH; omega)
  have h2 : (BitVec.ofInt 64 (L : Int)).toNat = L := by
    rw [BitVec.ofInt_natCast, BitVec.toNat_ofNat]; exact Nat.mod_eq_of_lt (by unfold W64 at hH; omega)
  show IntKind.u64.wrap ((BitVec.ofInt 64 ((k * 2 ^ s : Nat) : Int) ||| BitVec.ofInt 64 (L : Int)).toNat : Int) = _
  rw [BitVec.toNat_or, h1, h2]
  have := Nat.two_pow_add_eq_or_of_lt (b := L) (i := s) hL k
  rw [Nat.mul_comm k, ← this]
  exact wrapN _ (by rw [Nat.mul_comm]; exact hH)
theorem shl_w (x s : Nat) : IntKind.u64.wrap ((x : Int) * 2 ^ s) = ((x * 2 ^ s % W64 : Nat) : Int) := by
  have : (x : Int) * 2 ^ s = ((x * 2 ^ s : Nat) : Int) := by rw [Int.natCast_mul, Int.natCast_pow]; rfl
  rw [this, wrapM]
theorem shr_w (x s : Nat) : (x : Int) / 2 ^ s = ((x / 2 ^ s : Nat) : Int) := by rw [Int.natCast_ediv, Int.natCast_pow]; rfl
theorem mul_w (x y : Nat) : IntKind.u64.wrap ((x : Int) * (y : Int)) = ((x * y % W64 : Nat) : Int) := by rw [← Int.natCast_mul, wrapM]
theorem add_w (x y : Nat) : IntKind.u64.wrap ((x : Int) + (y : Int)) = (((x + y) % W64 : Nat) : Int) := by rw [← Int.natCast_add, wrapM]

end Go.Proofs.YtjggmdlecdbeeaaGreatDoor
