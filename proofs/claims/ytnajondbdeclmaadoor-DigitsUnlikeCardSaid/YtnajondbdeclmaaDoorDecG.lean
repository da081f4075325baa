/- The walk of dec.ten. The walk of dec.ratio. The walk of dec.ratio. -/
import Derived.Test.YtnajondbdeclmaaDoorDecD
import Derived.Test.YtnajondbdeclmaaDoorNatP
import Derived.Test.YtnajondbdeclmaaDoorNatO
import Derived.Test.YtnajondbdeclmaaDoorCalm
import Derived.Deep.DeepCutAuto
namespace Go.Proofs.YtnajondbdeclmaaDoor
open Go.RowKit
set_option linter.unusedSimpArgs false
set_option linter.unusedVariables false

end Go.Proofs.YtnajondbdeclmaaDoor

namespace Go.Proofs.YtnajondbdeclmaaDoor
open Go.RowKit
set_option linter.unusedSimpArgs false
set_option linter.unusedVariables false
attribute [local go_sem] SGives_value SGives_skip SGives_enter

def cutV (c : Nat × Int × Bool) : Value := .agg #[.int .u64 (c.1 : Nat), .int .i64 c.2.1, .bool c.2.2]
/-- The numbers of ratio. -/
structure RN (A B u1 u2 q r lq K j : Nat) (p kk : Int) : Prop where
  e_p : p = 66 - ((blen A : Nat) - (blen B : Nat) : Int)
  e_u1 : u1 = p.toNat
  e_u2 : u2 = (-p).toNat
  e_q : q = A * 2 ^ u1 / (B * 2 ^ u2)
  e_r : r = A * 2 ^ u1 % (B * 2 ^ u2)
  e_lq : lq = blen q
  lqa : 66 ≤ lq
  lqb : lq ≤ 67
  e_kk : kk = max ((lq : Int) - 53 - p) (-1074)
  e_K : K = (kk + p).toNat
  e_K' : (K : Int) = kk + p
  K0 : 13 ≤ K
  e_j : j = (kk + 1074).toNat
  e_j' : (j : Int) = kk + 1074
  jb : j ≤ 2060
theorem rn_make {A B : Nat} (hA : 0 < A) (hB : 0 < B) (lA : blen A ≤ 4000) (lB : blen B ≤ 4000) (hR : blen A ≤ blen B + 1030) : ∃ u1 u2 q r lq K j p kk, RN A B u1 u2 q r lq K j p kk := by
  obtain ⟨p, hp⟩ : ∃ p : Int, p = 66 - ((blen A : Nat) - (blen B : Nat) : Int) := ⟨_, rfl⟩
  have h1 : blen (A * 2 ^ p.toNat) = blen A + p.toNat := blen_mul _ _ (by omega)
  have h2 : blen (B * 2 ^ (-p).toNat) = blen B + (-p).toNat := blen_mul _ _ (by omega)
  have g1 := blen_lt (A * 2 ^ p.toNat)
  have g2 := blen_ge (x := A * 2 ^ p.toNat) (Nat.pos_iff_ne_zero.1 (Nat.mul_pos hA (Nat.pow_pos (by omega))))
  have g3 := blen_lt (B * 2 ^ (-p).toNat)
  have hdp : 0 < B * 2 ^ (-p).toNat := Nat.mul_pos hB (Nat.pow_pos (by omega))
  have g4 := blen_ge (x := B * 2 ^ (-p).toNat) (Nat.pos_iff_ne_zero.1 hdp)
  rw [h1] at g1 g2
  rw [h2] at g3 g4
  have hAp := blen_pos (x := A) (by omega)
  have hBp := blen_pos (x := B) (by omega)
  obtain ⟨D, hD⟩ : ∃ D, blen B + (-p).toNat = D + 1 := ⟨blen B + (-p).toNat - 1, by omega⟩
  have hN : blen A + p.toNat = D + 67 := by omega
  rw [hN] at g1 g2
  rw [hD] at g3 g4
  have q1 : 2 ^ 65 ≤ A * 2 ^ p.toNat / (B * 2 ^ (-p).toNat) := by
    rw [Nat.le_div_iff_mul_le hdp]
    refine Nat.le_trans (Nat.mul_le_mul_left _ (Nat.le_of_lt g3)) ?_
    have e : 65 + (D + 1) = D + 67 - 1 := by omega
    rw [← Nat.pow_add, e]
    exact g2
  have q2 : A * 2 ^ p.toNat / (B * 2 ^ (-p).toNat) < 2 ^ 67 := by
    rw [Nat.div_lt_iff_lt_mul hdp]
    refine Nat.lt_of_lt_of_le g1 ?_
    have e : D + 67 = 67 + (D + 1 - 1) := by omega
    rw [e, Nat.pow_add]
    exact Nat.mul_le_mul_left _ g4
  generalize hq : A * 2 ^ p.toNat / (B * 2 ^ (-p).toNat) = q at *
  have l2 := blen_le.2 q2
  have l1 : 66 ≤ blen q := by
    rcases Nat.lt_or_ge (blen q) 66 with h | h
    · exact absurd (blen_le.1 (show blen q ≤ 65 by omega)) (Nat.not_lt.2 q1)
    · exact h
  clear q1 q2 g1 g2 g3 g4
  refine ⟨_, _, q, _, _, _, _, p, max ((blen q : Int) - 53 - p) (-1074), hp, rfl, rfl, hq.symm, rfl, rfl, l1, l2, rfl, rfl, ?_, ?_, rfl, ?_, ?_⟩ <;> omega
set_option maxRecDepth 20000 in
theorem rn_law {A B u1 u2 q r lq K j : Nat} {p kk : Int} (h : RN A B u1 u2 q r lq K j p kk) (hB : 0 < B) :
    (q / 2 ^ K < 2 * P52) ∧ cutP A B = if j * P52 + q / 2 ^ K ≤ most then (j * P52 + q / 2 ^ K, (if q / 2 ^ (K - 1) % 2 = 1 then (if q % 2 ^ (K - 1) ≠ 0 ∨ r ≠ 0 then 1 else 0) else -1), !(decide (q % 2 ^ K ≠ 0) || decide (r ≠ 0))) else (most, 1, false) := by
  have h1 := h.e_p; have h2 := h.e_u1; have h3 := h.e_u2; have h4 := h.e_lq; have h5 := h.e_kk; have h6 := h.e_K'; have h7 := h.e_j'; have h8 := h.K0
  have hl := ratio_law (A := A) (B := B) (u1 := u1) (u2 := u2) (K := K) (j := j) hB h.e_q h.e_r (by omega) (by omega) (by rw [← h4]; omega)
  obtain ⟨e1, e2, e3, e4, e5⟩ := hl
  refine ⟨e3, ?_⟩
  by_cases ho : j * P52 + q / 2 ^ K ≤ most
  · rw [if_pos ho, cutP_at e1 e2 e3 ho, e4]
    congr 2
    rw [Bool.eq_iff_iff, decide_eq_true_eq, e5]
    simp only [Bool.not_eq_true', Bool.or_eq_false_iff, decide_eq_false_iff_not, Decidable.not_not]
  · rw [if_neg ho, cutP_over hB (by rw [e1]; omega)]
end Go.Proofs.YtnajondbdeclmaaDoor

namespace Go.Proofs.YtnajondbdeclmaaDoor
open Go.RowKit
set_option linter.unusedSimpArgs false
set_option linter.unusedVariables false
attribute [local go_sem] SGives_value SGives_skip SGives_enter

theorem NatL.w {w : World} {A : Option Addr} {n c x : Nat} (h : NatL w A n c x) : NatW w (.agg #[.slice A n c]) x := ⟨A, n, c, rfl, h⟩
theorem blk_eta {w : World} {b : Nat} {t : TypeId} {A : Option Addr} {n c : Nat} (h : Blk w b t #[.slice A n c]) : w.cell? ⟨b, 0, none⟩ = some (.slice A n c) ∧ w.frozen? ⟨b, 0, none⟩ = false := ⟨h.cell 0, h.frozen 0⟩
theorem i64_52 (j : Nat) (h : j ≤ 2060) : IntKind.u64.wrap ((j : Int) * 4503599627370496) = ((j * P52 : Nat) : Int) := by
  rw [show (j : Int) * 4503599627370496 = ((j * P52 : Nat) : Int) by unfold P52; omega]
  exact IntWalk.u64_in _ (by unfold P52; omega)
/-- What is left over. -/
def lostB (q r K : Nat) : Bool := decide (q % 2 ^ K ≠ 0) || decide (r ≠ 0)
def halfI (q r K : Nat) : Int := if q / 2 ^ (K - 1) % 2 = 1 then (if q % 2 ^ (K - 1) ≠ 0 ∨ r ≠ 0 then 1 else 0) else -1

end Go.Proofs.YtnajondbdeclmaaDoor
