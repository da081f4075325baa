/- Boxes that hold natural numbers. -/
import Derived.Test.YtjggmdlecdbeeaaGreatDoorNatG
namespace Go.Proofs.YtjggmdlecdbeeaaGreatDoor
open Go.RowKit
set_option linter.unusedVariables false

/-- A box, the row that it holds, the number that this is. -/
abbrev Bx := Nat × Option Addr × Nat × Nat × Nat
def St (w : World) (l : List Bx) : Prop := ∀ e ∈ l, w.cell? ⟨e.1, 0, none⟩ = some (.slice e.2.1 e.2.2.1 e.2.2.2.1) ∧ e.1 < w.heap.size ∧ NatL w e.2.1 e.2.2.1 e.2.2.2.1 e.2.2.2.2
section
variable {w w' : World} {l : List Bx} {A : Option Addr} {b n c x : Nat}
theorem St.nil (w : World) : St w [] := fun _ h => by cases h
theorem St.below (h : St w l) (hb : Below w.heap.size w w') : St w' l := fun e he => by
  obtain ⟨h1, h2, h3⟩ := h e he
  exact ⟨keepc hb h2 h1, Nat.lt_of_lt_of_le h2 hb.size, h3.below hb⟩
theorem St.step (h : St w l) (hb : Below w.heap.size w w') (hl : NatL w' A n c x) : St (w'.alloc (.cells #[.slice A n c] 126)) ((w'.heap.size, A, n, c, x) :: l) := fun e he => by
  rcases List.mem_cons.1 he with rfl | he
  · exact ⟨by have := (Blk.new w' 126 #[.slice A n c]).cell 0; exact this.trans rfl, by simp, hl.below (below_new _ _)⟩
  · exact (h.below hb).below (below_new _ _) e he
theorem St.step2 {B : Option Addr} {m d y : Nat} (h : St w l) (hb : Below w.heap.size w w') (hl : NatL w' A n c x) (hk : NatL w' B m d y) :
    St ((w'.alloc (.cells #[.slice A n c] 126)).alloc (.cells #[.slice B m d] 126)) ((w'.heap.size + 1, B, m, d, y) :: (w'.heap.size, A, n, c, x) :: l) := by
  have h2 := (h.step hb hl).step (Below.refl _ _) (hk.below (below_new w' (.cells #[.slice A n c] 126)))
  rwa [World.size_alloc] at h2
theorem St.box (h : St w l) (i : Nat) (hm : l[i]? = some (b, A, n, c, x)) : w.cell? ⟨b, 0, none⟩ = some (.slice A n c) := (h _ (List.mem_of_getElem? hm)).1
theorem St.nat (h : St w l) (i : Nat) (hm : l[i]? = some (b, A, n, c, x)) (hb : Below w.heap.size w w') : NatW w' (.agg #[.slice A n c]) x := ⟨A, n, c, rfl, (h _ (List.mem_of_getElem? hm)).2.2.below hb⟩
end
theorem NatB.small {x : Nat} {w w' : World} {e : Ending} (h : NatB x w e w') (hx : blen x ≤ 8192) : ∃ A n c, e = .returned (.tuple #[.agg #[.slice A n c], .nilIface]) ∧ NatL w' A n c x ∧ Below w.heap.size w w' := by
  unfold NatB at h
  rw [if_pos hx] at h
  obtain ⟨v, rfl, ⟨A, n, c, rfl, hl⟩, hb⟩ := h
  exact ⟨A, n, c, rfl, hl, hb⟩
theorem NatS.yes {x y : Nat} {w w' : World} {e : Ending} (h : NatS x y w e w') (hx : y ≤ x) : ∃ A n c, e = .returned (.tuple #[.agg #[.slice A n c], .nilIface]) ∧ NatL w' A n c (x - y) ∧ Below w.heap.size w w' := by
  unfold NatS at h
  rw [if_neg (by omega)] at h
  obtain ⟨A, n, c, rfl, hl, _, hb⟩ := h
  exact ⟨A, n, c, rfl, hl, hb⟩
theorem NatS.own {x y : Nat} {w w' : World} {e : Ending} (h : NatS x y w e w') (hx : y ≤ x) : NatG (x - y) w e w' := by
  unfold NatS at h
  rwa [if_neg (by omega)] at h
end Go.Proofs.YtjggmdlecdbeeaaGreatDoor
