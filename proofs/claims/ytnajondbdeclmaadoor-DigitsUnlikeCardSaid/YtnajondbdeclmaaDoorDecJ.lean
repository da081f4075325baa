/- The walk of dec.floor. The walk of dec.floor: what lies between. The walks of dec.rounded. -/
import Derived.Test.YtnajondbdeclmaaDoorStay
import Derived.Test.YtnajondbdeclmaaDoorDecG
import Derived.Test.YtnajondbdeclmaaDoorDecD
import Derived.Deep.CutBlock
namespace Go.Proofs.YtnajondbdeclmaaDoor
open Go.RowKit
set_option linter.unusedSimpArgs false
set_option linter.unusedVariables false
attribute [local go_sem] SGives_value SGives_skip SGives_enter CGives_value CGives_skip CGives_enter MGives_value MGives_skip MGives_enter

theorem sv_ne {l : List UInt8} (h : l ≠ []) : l.isEmpty = false ∧ ((⟨l.toArray⟩ : ByteArray) == ⟨#[]⟩) = false := by
  refine ⟨?_, by rw [sv_empty]; simpa using h⟩
  cases l with
  | nil => exact absurd rfl h
  | cons a l => rfl
theorem mul_any (A B : Option Addr) (n c m d x y : Nat) (w : World) (h : NatL w A n c x) (k : NatL w B m d y) (hx : blen x ≤ 4000) (hy : blen y ≤ 4000) :
    Calls Tryd.prog 16 #[.agg #[.slice A n c], .agg #[.slice B m d]] w fun e w' => ∃ A n c, e = .returned (.tuple #[.agg #[.slice A n c], .nilIface]) ∧ NatL w' A n c (x * y) ∧ Below w.heap.size w w' :=
  (mul_nat (.agg #[.slice A n c]) (.agg #[.slice B m d]) x y w ⟨A, n, c, rfl, h⟩ ⟨B, m, d, rfl, k⟩ (by omega) (by omega)).mono fun e w' h => by
    obtain ⟨A, n, c, rfl, hl, hb⟩ := h.small (by have := blen_times hx hy; omega)
    exact ⟨A, n, c, rfl, hl, hb⟩

theorem p310 (k n : Nat) (hk : k = 310) (hn : n = 1030) : 10 ^ k ≤ 2 ^ n := by subst hk hn; decide +kernel
theorem p801 (k : Nat) (hk : k = 801) : blen (10 ^ k) ≤ 4000 := by subst hk; decide +kernel
theorem p1131 (k : Nat) (hk : k = 1131) : blen (10 ^ k) ≤ 4000 := by subst hk; decide +kernel
/-- What is known of the numbers that floor holds against one another. -/
theorem mid_bounds {d : Dm} (h : Lead d.2.1) (hl : d.2.1.length ≤ 801) (h1 : topD d ≤ 310) (h2 : -330 ≤ topD d) :
    blen (numD d) ≤ 4000 ∧ blen (denD d) ≤ 4000 ∧ blen (numD d) ≤ blen (denD d) + 1030 ∧ blen (dval d.2.1) ≤ 4000 ∧ blen (10 ^ d.2.2.toNat) ≤ 4000 ∧ d.2.2.toNat ≤ 2000 ∧ (-d.2.2).toNat ≤ 2000 := by
  have hlen := h.len
  have hlt := h.lt
  obtain ⟨a, ha⟩ : ∃ a, a = 1131 := ⟨_, rfl⟩
  obtain ⟨b, hb⟩ : ∃ b, b = 801 := ⟨_, rfl⟩
  obtain ⟨c, hc⟩ : ∃ c, c = 310 := ⟨_, rfl⟩
  obtain ⟨e, he⟩ : ∃ e, e = 1030 := ⟨_, rfl⟩
  have g1 := p1131 a ha
  have g2 := p801 b hb
  have g3 := p310 c e hc he
  have hml := mag_lt h c (by omega)
  rw [← he]
  unfold topD at h1 h2
  have hd : denD d ≤ 10 ^ a := pow10_mono (by omega)
  have hn : numD d < 10 ^ b := by
    unfold numD
    refine Nat.lt_of_lt_of_le (Nat.mul_lt_mul_of_pos_right hlt (pow10 _)) ?_
    rw [← Nat.pow_add]
    exact pow10_mono (by omega)
  have hv : dval d.2.1 < 10 ^ b := Nat.lt_of_lt_of_le hlt (pow10_mono (by omega))
  have hx : 10 ^ d.2.2.toNat ≤ 10 ^ b := pow10_mono (by omega)
  refine ⟨Nat.le_trans (blen_mono (Nat.le_of_lt hn)) g2, Nat.le_trans (blen_mono hd) g1, ?_, Nat.le_trans (blen_mono (Nat.le_of_lt hv)) g2, Nat.le_trans (blen_mono hx) g2, by omega, by omega⟩
  rw [blen_le, Nat.add_comm, Nat.pow_add]
  exact Nat.lt_of_lt_of_le hml (Nat.mul_le_mul g3 (Nat.le_of_lt (blen_lt _)))

end Go.Proofs.YtnajondbdeclmaaDoor

namespace Go.Proofs.YtnajondbdeclmaaDoor
open Go.RowKit
set_option linter.unusedSimpArgs false
set_option linter.unusedVariables false
attribute [local go_sem] SGives_value SGives_skip SGives_enter CGives_value CGives_skip CGives_enter MGives_value MGives_skip MGives_enter

end Go.Proofs.YtnajondbdeclmaaDoor

namespace Go.Proofs.YtnajondbdeclmaaDoor
open Go.RowKit
set_option linter.unusedSimpArgs false
set_option linter.unusedVariables false

theorem cutB_most (A B : Nat) : cutB A B ≤ most := by unfold cutB; omega
theorem floorP_most (d : Dm) : (floorP d).1 ≤ most := by
  unfold floorP
  split
  · exact Nat.zero_le _
  · split
    · exact Nat.le_refl _
    · split
      · exact Nat.zero_le _
      · exact cutB_most _ _
def roundV (o : Option Nat) : Value := match o with
  | some b => .tuple #[.int .u64 (b : Nat), .nilIface]
  | none => .tuple #[.int .u64 0, enoV 41]
theorem roundV_some (b : Nat) : roundV (some b) = .tuple #[.int .u64 (b : Nat), .nilIface] := rfl
theorem roundV_none : roundV none = .tuple #[.int .u64 0, enoV 41] := rfl

theorem and_one (y : Nat) (hy : y < 18446744073709551616) : bits .and .u64 (y : Int) 1 = ((y % 2 : Nat) : Int) := by
  have h := bits_and_u64_nat y 1 hy (by omega)
  rw [show y &&& 1 = y % 2 from Nat.and_two_pow_sub_one_eq_mod y 1] at h
  exact h
theorem or_top (b : Nat) (hb : b < 9223372036854775808) : bits .or .u64 (b : Int) 9223372036854775808 = ((b + 9223372036854775808 : Nat) : Int) := by
  have h1 : (BitVec.ofInt 64 (b : Int)).toNat = b := by
    rw [BitVec.ofInt_natCast, BitVec.toNat_ofNat]; exact Nat.mod_eq_of_lt (by omega)
  have h2 : (BitVec.ofInt 64 (9223372036854775808 : Int)).toNat = 9223372036854775808 := by decide
  show IntKind.u64.wrap ((BitVec.ofInt 64 (b : Int) ||| BitVec.ofInt 64 (9223372036854775808 : Int)).toNat : Int) = _
  rw [BitVec.toNat_or, h1, h2, Nat.or_comm]
  have := Nat.two_pow_add_eq_or_of_lt (b := b) (i := 63) hb 1
  rw [show (9223372036854775808 : Nat) = 2 ^ 63 * 1 from rfl, ← this]
  rw [show 2 ^ 63 * 1 + b = b + 2 ^ 63 * 1 from Nat.add_comm _ _]
  exact wrapN _ (by unfold W64; omega)

end Go.Proofs.YtnajondbdeclmaaDoor
