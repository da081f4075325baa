/- The walk of dec.Against. -/
import Derived.Test.YtnajondbdeclmaaDoorDecN
import Derived.Test.YtnajondbdeclmaaDoorDecS
namespace Go.Proofs.YtnajondbdeclmaaDoor
open Go.RowKit
set_option linter.unusedSimpArgs false
set_option linter.unusedVariables false

theorem call_from (n : Nat) (w : World) :
    (callFunc 44 #[.int .u64 (n : Int)]).run Tryd.prog w = .ok (.value (.float .f64 n)) w := by
  rw [run_callFunc_extern Tryd.func44 (by kernel_rfl) (by kernel_rfl) (by kernel_rfl) (e := Extern.MathFloatBits.float64frombits) (by kernel_rfl)]
  rfl
theorem call_bits (n : Nat) (w : World) :
    (callFunc 24 #[.float .f64 n]).run Tryd.prog w = .ok (.value (.int .u64 (n : Int))) w := by
  rw [run_callFunc_extern Tryd.func24 (by kernel_rfl) (by kernel_rfl) (by kernel_rfl) (e := Extern.MathFloatBits.float64bits) (by kernel_rfl)]
  rfl
theorem andnot_top (n : Nat) (hn : n < 18446744073709551616) : bits .andNot .u64 (n : Int) 9223372036854775808 = ((n % 9223372036854775808 : Nat) : Int) := by
  have h1 : (BitVec.ofInt 64 (n : Int)).toNat = n := by
    rw [BitVec.ofInt_natCast, BitVec.toNat_ofNat]; exact Nat.mod_eq_of_lt (by omega)
  have h2 : (~~~(BitVec.ofInt 64 (9223372036854775808 : Int))).toNat = 9223372036854775807 := by decide
  show IntKind.u64.wrap ((BitVec.ofInt 64 (n : Int) &&& ~~~(BitVec.ofInt 64 (9223372036854775808 : Int))).toNat : Int) = _
  rw [BitVec.toNat_and, h1, h2, show n &&& 9223372036854775807 = n % 9223372036854775808 from Nat.and_two_pow_sub_one_eq_mod n 63]
  exact IntWalk.u64_in _ (by omega)

theorem abs_any (n : Nat) (w : World) (hn : n < 18446744073709551616) :
    Calls Tryd.prog 22 #[.float .f64 n] w fun e w' => e = .returned (.float .f64 (n % 9223372036854775808)) ∧ w = w' := by
  have h := andnot_top n hn
  have c1 := call_bits n
  have c2 := call_from (n % 9223372036854775808)
  generalize n % 9223372036854775808 = m at *
  clear hn
  go_enter Tryd.func22, Tryd.ntmps22
  go_wp2_with fail
  go_ret
  exact ⟨rfl, rfl⟩
/-- Whether bits are a float's that is a number. -/
def finB (n : Nat) : Bool := decide (n % 9223372036854775808 ≤ most)
theorem fin_nan {n : Nat} (hn : n < 18446744073709551616) (h : finB n = true) :
    FloatKind.f64.format.order n n = some .eq ∧ ∃ o, FloatKind.f64.format.order (n % 9223372036854775808) 9218868437227405311 = o ∧ (o == some .gt) = false := by
  have hm : n % 9223372036854775808 ≤ most := of_decide_eq_true h
  refine ⟨by rw [order_sv hn hm hn hm, if_neg (by omega), if_pos rfl], _, order_sv (by omega) (by rw [Nat.mod_mod]; exact hm) (by decide) (by decide), ?_⟩
  have h1 : svI (n % 9223372036854775808) ≤ svI 9218868437227405311 := by
    unfold svI
    rw [if_pos (by omega), if_pos (by decide)]
    have := Fl_le.2 (show n % 9223372036854775808 ≤ 9218868437227405311 from hm)
    omega
  split
  · rfl
  · split
    · rfl
    · omega
theorem inf_nan {n : Nat} (hn : n < 18446744073709551616) (h : finB n = false) :
    (FloatKind.f64.format.order n n = none) ∨ (FloatKind.f64.format.order n n = some .eq ∧ FloatKind.f64.format.order (n % 9223372036854775808) 9218868437227405311 = some .gt) := by
  have hm : ¬ n % 9223372036854775808 ≤ most := of_decide_eq_false h
  unfold most at hm
  by_cases he : n % 9223372036854775808 = 9218868437227405312
  · right
    have r1 : FloatKind.f64.format.read n = .infinity (n / 9223372036854775808 % 2 == 1) := by
      unfold Ieee.Format.read
      rw [f64_sign, f64_binade, f64_inf, f64_least]
      simp only [he]
      rfl
    have r2 : FloatKind.f64.format.read (n % 9223372036854775808) = .infinity false := by rw [he]; decide
    have r3 : ∃ m e, FloatKind.f64.format.read 9218868437227405311 = .number false m e := ⟨_, _, rfl⟩
    obtain ⟨m, e, r3⟩ := r3
    unfold Ieee.Format.order
    rw [r1, r2, r3]
    refine ⟨?_, rfl⟩
    show some (compare _ _) = _
    rw [show ∀ a : Nat, compare a a = .eq from fun a => Nat.compare_eq_eq.2 rfl]
  · left
    have r1 : ∃ s f, FloatKind.f64.format.read n = .nan s f := by
      unfold Ieee.Format.read
      rw [f64_sign, f64_binade, f64_inf, f64_least]
      simp only []
      rw [if_neg (by omega), if_neg (by omega), if_neg he]
      exact ⟨_, _, rfl⟩
    obtain ⟨s, f, r1⟩ := r1
    unfold Ieee.Format.order
    rw [r1]
    rfl

/-- How a decimal stands to the float of some bits. -/
def fsign (n : Nat) : Int := if svI n < 0 then -1 else if svI n = 0 then 0 else 1
def againC (s : Int) (c : Nat × Int × Bool) (m : Nat) : Int := if m ≤ c.1 ∧ ¬ (c.1 = m ∧ c.2.2 = true) then s else if c.1 < m then -s else 0
def againP (d : Dm) (n : Nat) : Int := if signP d < fsign n then -1 else if fsign n < signP d then 1 else if signP d = 0 then 0 else againC (signP d) (floorP d) (n % 9223372036854775808)
theorem order_nought {n : Nat} (hn : n < 18446744073709551616) (h : finB n = true) :
    (fsign n = -1 ∧ FloatKind.f64.format.order n 0 = some .lt) ∨ (fsign n = 0 ∧ FloatKind.f64.format.order n 0 = some .eq) ∨ (fsign n = 1 ∧ FloatKind.f64.format.order n 0 = some .gt) := by
  have hm : n % 9223372036854775808 ≤ most := of_decide_eq_true h
  rw [order_sv hn hm (by decide) (by decide), sv_nought]
  unfold fsign
  rcases Int.lt_trichotomy (svI n) 0 with k | k | k
  · left; rw [if_pos k, if_pos k]; exact ⟨rfl, rfl⟩
  · right; left; rw [if_neg (by omega), if_pos k, if_neg (by omega), if_pos k]; exact ⟨rfl, rfl⟩
  · right; right; rw [if_neg (by omega), if_neg (by omega), if_neg (by omega), if_neg (by omega)]; exact ⟨rfl, rfl⟩

end Go.Proofs.YtnajondbdeclmaaDoor
