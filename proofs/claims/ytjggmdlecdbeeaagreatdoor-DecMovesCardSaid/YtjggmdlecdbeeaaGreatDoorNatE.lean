/- The contracts of natural numbers' Add. -/
import Derived.Test.YtjggmdlecdbeeaaGreatDoorNatD
namespace Go.Proofs.YtjggmdlecdbeeaaGreatDoor
open Go.RowKit
set_option linter.unusedSimpArgs false
set_option linter.unusedVariables false

theorem nadd_step {x y c X Y lo hi P B C : Nat} (h : lo + W64 * hi = X + Y + c) (hv : B + P * c = x + y) (hC : C = P * W64) : (B + P * lo) + C * hi = (x + P * X) + (y + P * Y) := by
  have e : P * lo + P * (W64 * hi) = P * X + P * Y + P * c := by rw [← Nat.mul_add, h, Nat.mul_add, Nat.mul_add]
  have e2 : C * hi = P * (W64 * hi) := by rw [hC, Nat.mul_assoc]
  rw [e2]
  omega

theorem blen_add {x y k : Nat} (hx : blen x ≤ k) (hy : blen y ≤ k) : blen (x + y) ≤ k + 1 := by
  have h1 := blen_le.1 hx
  have h2 := blen_le.1 hy
  exact blen_le.2 (by rw [Nat.pow_succ]; omega)
theorem boxes3 (w : World) (u v : Value) (t : TypeId) (o : Obj) : (((w.alloc (.cells #[u] t)).alloc (.cells #[v] t)).alloc o).cell? ⟨w.heap.size, 0, none⟩ = some u ∧ (((w.alloc (.cells #[u] t)).alloc (.cells #[v] t)).alloc o).cell? ⟨w.heap.size + 1, 0, none⟩ = some v := by
  have h1 : (w.alloc (.cells #[u] t)).cell? ⟨w.heap.size, 0, none⟩ = some u := by simp
  have h2 : ((w.alloc (.cells #[u] t)).alloc (.cells #[v] t)).cell? ⟨w.heap.size + 1, 0, none⟩ = some v := by
    have := (Blk.new (w.alloc (.cells #[u] t)) t #[v]).cell 0
    rw [World.size_alloc] at this; exact this.trans rfl
  exact ⟨keepc (below_new _ _) (by simp; omega) (keepc (below_new _ _) (by simp) h1), keepc (below_new _ _) (by simp) h2⟩

end Go.Proofs.YtjggmdlecdbeeaaGreatDoor
