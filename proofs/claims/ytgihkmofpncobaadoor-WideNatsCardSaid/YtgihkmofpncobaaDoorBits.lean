/- Words of 64 bits: what package bits adds, takes away, multiplies, counts. -/
import Derived.Test.YtgihkmofpncobaaDoorShelf
import Derived.Test.YtgihkmofpncobaaDoorMem
import Derived.WalkKit
import Derived.WalkLawsBesides
import Derived.WalkSpells
import Derived.Lib.Hide
import Derived.Lib.BitFns
import Derived.Handy
import Derived.Laws.Externs
import Derived.Laws.Bits64
import Derived.KernelRfl
namespace Go.Proofs.YtgihkmofpncobaaDoor
open Go.RowKit
set_option linter.unusedSimpArgs false
set_option linter.unusedVariables false

/-- Two to the power 64: behind a name, so that no walk meets the great numeral. -/
def W64 : Nat := 18446744073709551616
theorem W64_pow : W64 = 2 ^ 64 := rfl
theorem W64_pos : 1 < W64 := by unfold W64; omega
/-- A word as a value of the program. -/
abbrev wv (n : Nat) : Value := .int .u64 (n : Int)
theorem wrapM (a : Nat) : IntKind.u64.wrap (a : Int) = ((a % W64 : Nat) : Int) := by unfold W64; rw [IntKind.wrap_u64]; omega
theorem wrapN (a : Nat) (ha : a < W64) : IntKind.u64.wrap (a : Int) = (a : Int) := by unfold W64 at ha; rw [IntKind.wrap_u64]; omega

/-- What is added, and what is carried. -/
def addLo (x y c : Nat) : Nat := (x + y + c) % W64
def addHi (x y c : Nat) : Nat := (x + y + c) / W64
/-- What is taken away, and what is borrowed. -/
def subLo (x y b : Nat) : Nat := (x + W64 - y - b) % W64
def subHi (x y b : Nat) : Nat := if x < y + b then 1 else 0
theorem add_eq (x y c : Nat) : addLo x y c + W64 * addHi x y c = x + y + c := Nat.mod_add_div _ _
theorem addLo_lt (x y c : Nat) : addLo x y c < W64 := Nat.mod_lt _ (by unfold W64; omega)
theorem addHi_le {x y c : Nat} (hx : x < W64) (hy : y < W64) (hc : c ≤ 1) : addHi x y c ≤ 1 := by unfold addHi W64 at *; omega
theorem sub_eq {x y b : Nat} (hx : x < W64) (hy : y < W64) (hb : b ≤ 1) : subLo x y b + y + b = x + W64 * subHi x y b := by
  unfold subLo subHi W64 at *
  split <;> omega
theorem subLo_lt (x y b : Nat) : subLo x y b < W64 := Nat.mod_lt _ (by unfold W64; omega)
theorem subHi_le (x y b : Nat) : subHi x y b ≤ 1 := by unfold subHi; split <;> omega
theorem mul_lt {x y : Nat} (hx : x < W64) (hy : y < W64) : x * y / W64 < W64 - 1 := by
  unfold W64 at *
  have h : x * y ≤ 18446744073709551615 * 18446744073709551615 := Nat.mul_le_mul (by omega) (by omega)
  omega

def subE : Array Value → Sem Value := (Extern.MathBitsCarry.rows.getD 1 ("", fun _ => pure .nilIface)).2
theorem run_subE {P : Program} (x y b : Nat) (hb : b ≤ 1) (w : World) :
    (subE #[.int .u64 x, .int .u64 y, .int .u64 b]).run P w = .ok (.tuple #[.int .u64 ((subLo x y b : Nat) : Int), .int .u64 ((subHi x y b : Nat) : Int)]) w := by
  have : b = 0 ∨ b = 1 := by omega
  rcases this with rfl | rfl <;> rfl

theorem call_add (x y c : Nat) (hc : c ≤ 1) (w : World) :
    (callFunc 54 #[.int .u64 x, .int .u64 y, .int .u64 c]).run Tryd.prog w = .ok (.value (.tuple #[.int .u64 ((addLo x y c : Nat) : Int), .int .u64 ((addHi x y c : Nat) : Int)])) w := by
  rw [run_callFunc_extern Tryd.func54 (by kernel_rfl) (by kernel_rfl) (by kernel_rfl) (e := add64Entry) (by kernel_rfl), run_add64 x y c (by omega) (by omega) (by omega) (by omega)]
  simp only [Result.andThen]
  unfold addLo addHi W64
  congr 5 <;> omega
theorem call_sub (x y b : Nat) (hb : b ≤ 1) (w : World) :
    (callFunc 57 #[.int .u64 x, .int .u64 y, .int .u64 b]).run Tryd.prog w = .ok (.value (.tuple #[.int .u64 ((subLo x y b : Nat) : Int), .int .u64 ((subHi x y b : Nat) : Int)])) w := by
  rw [run_callFunc_extern Tryd.func57 (by kernel_rfl) (by kernel_rfl) (by kernel_rfl) (e := subE) (by kernel_rfl), run_subE x y b hb]
  rfl
theorem call_add0 (x y : Nat) (w : World) :
    (callFunc 54 #[.int .u64 x, .int .u64 y, .int .u64 0]).run Tryd.prog w = .ok (.value (.tuple #[.int .u64 ((addLo x y 0 : Nat) : Int), .int .u64 ((addHi x y 0 : Nat) : Int)])) w := call_add x y 0 (by omega) w
theorem call_sub0 (x y : Nat) (w : World) :
    (callFunc 57 #[.int .u64 x, .int .u64 y, .int .u64 0]).run Tryd.prog w = .ok (.value (.tuple #[.int .u64 ((subLo x y 0 : Nat) : Int), .int .u64 ((subHi x y 0 : Nat) : Int)])) w := call_sub x y 0 (by omega) w
theorem mul64 (x y : Nat) (hx : x < W64) (hy : y < W64) (w : World) :
    Calls Tryd.prog 52 #[.int .u64 x, .int .u64 y] w fun e w' => e = .returned (.tuple #[wv (x * y / W64), wv (x * y % W64)]) ∧ w = w' :=
  (Tryd.bits_Mul64 x y hx hy w).mono fun _ _ ⟨h1, h2⟩ => ⟨h1, h2.symm⟩

/-- How many bits a number has. -/
def blen (x : Nat) : Nat := if x = 0 then 0 else x.log2 + 1
theorem blen_le {x k : Nat} : blen x ≤ k ↔ x < 2 ^ k := by
  unfold blen
  by_cases h : x = 0
  · rw [if_pos h, h]; simp [Nat.pow_pos]
  · rw [if_neg h, ← Nat.log2_lt h]; omega
theorem blen_lt (x : Nat) : x < 2 ^ blen x := blen_le.1 (Nat.le_refl _)
theorem blen_ge {x : Nat} (h : x ≠ 0) : 2 ^ (blen x - 1) ≤ x := by
  have h1 : ¬ blen x ≤ blen x - 1 := by unfold blen; rw [if_neg h]; omega
  rw [blen_le] at h1
  omega
theorem blen_pos {x : Nat} (h : x ≠ 0) : 0 < blen x := by unfold blen; rw [if_neg h]; omega
theorem blen_zero : blen 0 = 0 := rfl
theorem blen_eq {x k : Nat} (h1 : x < 2 ^ k) (h2 : 2 ^ k ≤ 2 * x) : blen x = k := by
  have a := blen_le.2 h1
  rcases Nat.lt_or_ge (blen x) k with h | h
  · have b : blen x ≤ k - 1 := by omega
    rw [blen_le] at b
    obtain ⟨j, rfl⟩ : ∃ j, k = j + 1 := ⟨k - 1, by omega⟩
    rw [Nat.pow_succ] at h2
    simp at b
    omega
  · omega
theorem blen_mul (x k : Nat) (h : x ≠ 0) : blen (x * 2 ^ k) = blen x + k := by
  have a := blen_lt x
  have b := blen_ge h
  have c := blen_pos h
  refine blen_eq ?_ ?_
  · rw [Nat.pow_add]; exact Nat.mul_lt_mul_of_pos_right a (Nat.pow_pos (by omega))
  · obtain ⟨j, hj⟩ : ∃ j, blen x = j + 1 := ⟨blen x - 1, by omega⟩
    rw [hj, Nat.add_sub_cancel] at b
    rw [hj, show j + 1 + k = (j + k) + 1 by omega, Nat.pow_succ, Nat.pow_add]
    have := Nat.mul_le_mul_right (2 ^ k) b
    omega
theorem blen_mono {x y : Nat} (h : x ≤ y) : blen x ≤ blen y := blen_le.2 (Nat.lt_of_le_of_lt h (blen_lt y))
theorem blen_div (x k : Nat) : blen (x / 2 ^ k) = blen x - k := by
  apply Nat.le_antisymm
  · rw [blen_le]
    rw [Nat.div_lt_iff_lt_mul (Nat.pow_pos (by omega)), ← Nat.pow_add]
    exact Nat.lt_of_lt_of_le (blen_lt x) (Nat.pow_le_pow_right (by omega) (by omega))
  · have h : ¬ blen (x / 2 ^ k) < blen x - k := by
      intro h
      have h1 := blen_lt (x / 2 ^ k)
      rw [Nat.div_lt_iff_lt_mul (Nat.pow_pos (by omega)), ← Nat.pow_add] at h1
      have := blen_le.2 h1
      omega
    omega
theorem bitLen_blen : ∀ x, x < W64 → Lib.bitLen x = blen x := by
  have key : ∀ f x, x < 2 ^ f → Lib.bitLenAux f x = blen x := by
    intro f
    induction f with
    | zero => intro x hx; have h0 : x = 0 := (by simpa using hx); subst h0; rfl
    | succ f ih =>
      intro x hx
      unfold Lib.bitLenAux
      by_cases h0 : x = 0
      · rw [if_pos h0, h0]; rfl
      · rw [if_neg h0, ih _ (by rw [Nat.pow_succ] at hx; omega)]
        have h1 := blen_div x 1
        have h2 := blen_pos h0
        rw [Nat.pow_one] at h1
        omega
  intro x hx
  exact key 64 x hx
theorem len64 (x : Nat) (hx : x < W64) (w : World) :
    Calls Tryd.prog 62 #[.int .u64 x] w fun e w' => e = .returned (.int .i64 (blen x : Nat)) ∧ w = w' :=
  (Tryd.bits_Len64 x w (by omega) (by unfold W64 at hx; omega)).mono fun _ _ ⟨h1, h2⟩ => ⟨by rw [h1, Int.toNat_natCast, bitLen_blen x hx], h2.symm⟩
theorem blen_le64 {x : Nat} (hx : x < W64) : blen x ≤ 64 := blen_le.2 hx
theorem lz64 (x : Nat) (hx : x < W64) (w : World) :
    Calls Tryd.prog 64 #[.int .u64 x] w fun e w' => e = .returned (.int .i64 ((64 - blen x : Nat) : Int)) ∧ w = w' :=
  (Tryd.bits_LeadingZeros64 x w (by omega) (by unfold W64 at hx; omega)).mono fun _ _ ⟨h1, h2⟩ => ⟨by rw [h1, Int.toNat_natCast, bitLen_blen x hx]; have := blen_le64 hx; rw [Int.ofNat_sub this]; rfl, h2.symm⟩
end Go.Proofs.YtgihkmofpncobaaDoor
