/- Rows of one-celled values that lie in a block of a known type: a store into a block of another type leaves them. Over any program. -/
import Derived.Test.YtgihkmofpncobaaDoorCopy
namespace Go.Proofs.YtgihkmofpncobaaDoor
open Go.RowKit

/-- A slice value's cells are these; they lie in a block of type t, none of it frozen. -/
def RT (w : World) (t : TypeId) (A : Option Addr) (xs : List Value) : Prop :=
  (A = none ∧ xs = []) ∨ ∃ (g o : Nat) (cs : Array Value), A = some ⟨g, o, none⟩ ∧ Blk w g t cs ∧ ∀ j (h : j < xs.length), cs[o + j]? = some xs[j]
section
variable {w w' : World} {t : TypeId} {A : Option Addr} {xs : List Value}
theorem RT.nil (w : World) (t : TypeId) : RT w t none [] := .inl ⟨rfl, rfl⟩
theorem RT.rv (h : RT w t A xs) : RV w w.heap.size A xs.length xs :=
  ⟨rfl, fun hn => by
    rcases h with ⟨_, rfl⟩ | ⟨g, o, cs, hA, hB, hc⟩
    · simp at hn
    · exact ⟨g, o, hA, hB.lt, fun j hj => by rw [hB.cell]; exact hc j hj⟩⟩
theorem RT.below (h : RT w t A xs) (hb : Below w.heap.size w w') : RT w' t A xs := by
  rcases h with h | ⟨g, o, cs, hA, hB, hc⟩
  · exact .inl h
  · exact .inr ⟨g, o, cs, hA, hB.below hb hB.lt, hc⟩
theorem RT.but {b : Nat} {t' : TypeId} {cs' : Array Value} (h : RT w t A xs) (hB' : Blk w b t' cs') (hne : t ≠ t') (hb : But w.heap.size b w w') : RT w' t A xs := by
  rcases h with h | ⟨g, o, cs, hA, hB, hc⟩
  · exact .inl h
  · exact .inr ⟨g, o, cs, hA, (hb.block g hB.lt (hB.apart hB' hne)).trans hB, hc⟩
theorem RT.set {b i : Nat} {t' : TypeId} {cs' : Array Value} (h : RT w t A xs) (hB' : Blk w b t' cs') (hne : t ≠ t') (u : Value) : RT (w.setCell ⟨b, i, none⟩ u) t A xs :=
  h.but hB' hne ((But.refl _ b _).setCell (p := ⟨b, i, none⟩) (.inl rfl) u)
theorem RT.grown {row : Option Nat} (h : RT w t A xs) (hg : w.grownBy w' row) (hr : ∀ g o, A = some ⟨g, o, none⟩ → some g ≠ row) : RT w' t A xs := by
  rcases h with h | ⟨g, o, cs, hA, hB, hc⟩
  · exact .inl h
  · exact .inr ⟨g, o, cs, hA, hB.grown hg (hr g o hA), hc⟩
theorem RT.take (h : RT w t A xs) (k : Nat) : RT w t A (xs.take k) := by
  rcases h with ⟨h1, rfl⟩ | ⟨g, o, cs, hA, hB, hc⟩
  · exact .inl ⟨h1, by simp⟩
  · exact .inr ⟨g, o, cs, hA, hB, fun j hj => by rw [hc j (by rw [List.length_take] at hj; omega), List.getElem_take]⟩
theorem RT.of_blk {g o : Nat} {cs : Array Value} (hB : Blk w g t cs) (hc : ∀ j (h : j < xs.length), cs[o + j]? = some xs[j]) : RT w t (some ⟨g, o, none⟩) xs := .inr ⟨g, o, cs, rfl, hB, hc⟩
theorem RT.fresh (w : World) (t : TypeId) (xs : List Value) : RT (w.alloc (.cells xs.toArray t)) t (some ⟨w.heap.size, 0, none⟩) xs :=
  .of_blk (Blk.new w t xs.toArray) (fun j hj => by simp [hj])
theorem RT.of_own {base n c : Nat} {ok : Value → Prop} (h : OwnR w base t ok (.slice A n c) n xs) : RT w t A xs := by
  obtain ⟨hl, h⟩ := h
  rcases h with ⟨hv, h0⟩ | ⟨g, cap, rest, hv, _, hB, _⟩
  · injection hv with hA _ _
    exact .inl ⟨hA, List.eq_nil_of_length_eq_zero (by omega)⟩
  · injection hv with hA _ _
    exact .inr ⟨g, 0, _, hA, hB, fun j hj => by rw [List.getElem?_toArray, List.getElem?_append_left (by omega)]; simp⟩
theorem RT.cell (h : RT w t A xs) (j : Nat) (hj : j < xs.length) : ∃ g o, A = some ⟨g, o, none⟩ ∧ w.cell? ⟨g, o + j, none⟩ = some xs[j] := by
  rcases h with ⟨_, rfl⟩ | ⟨g, o, cs, hA, hB, hc⟩
  · simp at hj
  · exact ⟨g, o, hA, by rw [hB.cell]; exact hc j hj⟩
theorem RT.addr (h : RT w t A xs) : A = none ∧ xs = [] ∨ ∃ g o, A = some ⟨g, o, none⟩ := by
  rcases h with h | ⟨g, o, cs, hA, _⟩
  · exact .inl h
  · exact .inr ⟨g, o, hA⟩
end
theorem Blk.put {w : World} {b i : Nat} {t : TypeId} {cs : Array Value} (h : Blk w b t cs) (hi : i < cs.size) (u : Value) : (w.setCell ⟨b, i, none⟩ u).cell? ⟨b, i, none⟩ = some u := by
  rw [(h.set1 i u).cell]; simp [hi]
end Go.Proofs.YtgihkmofpncobaaDoor
