/- The reference of decimals: the walk of Bare. -/
import Derived.Test.YtjggmdlecdbeeaaGreatDoorRefA
import Derived.Deep.CutBlock
namespace Go.Proofs.YtjggmdlecdbeeaaGreatDoor
open Go.RowKit
set_option linter.unusedSimpArgs false
set_option linter.unusedVariables false

theorem valid_hasE {r : List UInt8} (h : wrongP r = none) : hasE r = decide (p2 r < r.length) := by
  cases he : hasE r with
  | true => rw [decide_eq_true (hasE_lt he)]
  | false =>
    have h4 : p4 r = p2 r := by unfold p4; rw [he]; rfl
    have := (valid_e h).2
    rw [decide_eq_false (by omega)]
theorem cutL_full (s : List UInt8) (i k : Nat) (h : k ≤ s.length) (hik : i ≤ k) : (cutL s i k).length = k - i := by
  unfold cutL; rw [List.length_take, List.length_drop]; omega
theorem behind_len (r : List UInt8) : ((behindP r).length : Int) = (p2 r : Int) - (p1 r : Int) - (if pt r then 1 else 0) := by
  unfold behindP
  cases h : pt r with
  | true =>
    simp only [if_true]
    have h2 := p2_le (s := r)
    have h3 : p1 r + 1 ≤ p2 r := by unfold p2; rw [h]; exact ov_ge _ _
    rw [cutL_full _ _ _ h2 h3]
    omega
  | false =>
    have : p2 r = p1 r := by unfold p2; rw [h]; rfl
    simp [this]
theorem expP_at {r : List UInt8} (he : hasE r = true) (k : Nat) (h1 : p3 r ≤ k) (h2 : k < p4 r) : bt (expP r) (k - p3 r) = bt r k ∧ k - p3 r < (expP r).length := by
  have hle := p4_le (s := r)
  have hx : expP r = cutL r (p3 r) (p4 r) := by unfold expP; rw [he]; rfl
  have hl := cutL_full r (p3 r) (p4 r) hle (by omega)
  refine ⟨?_, by rw [hx, hl]; omega⟩
  unfold bt
  rw [hx]
  congr 1
  unfold cutL
  rw [List.getD_eq_getElem?_getD, List.getD_eq_getElem?_getD, List.getElem?_take, if_pos (by omega), List.getElem?_drop, show p3 r + (k - p3 r) = k by omega]

end Go.Proofs.YtjggmdlecdbeeaaGreatDoor
