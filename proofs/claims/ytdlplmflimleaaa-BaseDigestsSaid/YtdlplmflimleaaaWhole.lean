/- An array by value: all of a block's cells, written and read at once. -/
import Derived.Test.YtdlplmflimleaaaMem
import Derived.Deep.WholeRow
namespace Go.Proofs.Ytdlplmflimleaaa
open Go.RowKit
set_option linter.unusedSimpArgs false
set_option linter.unusedVariables false

theorem store_row {P : Program} (w : World) (g : Nat) (t : TypeId) (c c' : Array Value) (hb : w.heap[g]? = some (.cells c t)) (hi : (P.info? t).map (·.size) = some c'.size) (ho : c.size = c'.size) (h1 : c'.all (·.oneCell') = true) :
    (storeCells ⟨g, 0, none⟩ c'.toList 0).run P w = .ok () (w.setRow g c') := by
  have := run_storeVar_row (P := P) w g t t c c' hb hi ho h1
  cases hq : P.info? t with
  | none => simp [hq] at hi
  | some i =>
    have hs : c'.size = i.size := by simp [hq] at hi; omega
    simpa [storeVar, sizeOf, typeInfo, hq, Value.cells, hs] using this
theorem load_row {P : Program} (w : World) (g : Nat) (c : Array Value) (n : Nat) (hn : c.size = n) (hc : ∀ j v, c[j]? = some v → w.cell? ⟨g, j, none⟩ = some v) :
    (loadCellsFrom ⟨g, 0, none⟩ 0 n #[]).run P w = .ok c w := by
  subst hn
  have := run_loadCells_list (P := P) w ⟨g, 0, none⟩ c.toList (fun j v hv => by
    have hadd : (⟨g, 0, none⟩ : Addr).add j = ⟨g, j, none⟩ := by unfold Addr.add; split <;> simp_all
    rw [hadd]
    exact hc j v (by simpa using hv))
  simpa [loadCells] using this
end Go.Proofs.Ytdlplmflimleaaa
