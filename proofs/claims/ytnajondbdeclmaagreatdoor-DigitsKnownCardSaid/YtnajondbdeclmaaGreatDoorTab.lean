/- The table of powers of ten, from a row's list of variables. -/
import Derived.Test.YtnajondbdeclmaaGreatDoorProg
import Derived.Lib.LaidU8
import Derived.Lib.AppendIntMem
import Derived.Lib.Itoa
import Derived.Handed
import Derived.MakeChecks
import Derived.KernelRfl
import Derived.Below
namespace Go.Proofs.YtnajondbdeclmaaGreatDoor
open Go.RowKit

/-- The table of powers of ten lies where it lay. -/
def Tab (w : World) : Prop := Lib.TabBelow Tryz.prog w.heap.size w "internal/strconv.uint64pow10" .u64 Lib.pow10Tab
theorem Tab.below {w w' : World} (h : Tab w) (hb : Below w.heap.size w w') : Tab w' := by
  intro W hW
  exact h W (hb.trans (hW.mono hb.size))
theorem tab_of {l : List (String × DataW Unit)} {W : World} (h : laidMetH Tryz.prog l W) (hp : (l.all fun x => x.2.handleName?.isNone) = true) (hm : ("internal/strconv.uint64pow10", Lib.tabData .u64 Lib.pow10Tab) ∈ l) : Tab W := by
  rw [MakeChecks.laidMetH_plain _ _ _ hp] at h
  obtain ⟨g, t, cs, fuel, p, hg, ht, hv, hd⟩ := Lib.laidMet.reads h hm
  have hg' : Tryz.prog.globalNamed "internal/strconv.uint64pow10" = some 3 := by kernel_rfl
  rw [hg'] at hg
  obtain rfl := Option.some.inj hg
  have ht' : (Tryz.prog.globals[3]?).map (·.type) = some 179 := by kernel_rfl
  rw [ht'] at ht
  obtain rfl := Option.some.inj ht
  have hc := Lib.cells_of_tab Tryz.underlying179 Tryz.underlying22 (by kernel_rfl) (by kernel_rfl) hd
  refine Lib.tabBelow_of_tabIs ?_
  show W.var? Tryz.prog "internal/strconv.uint64pow10" = _
  rw [hv, ← hc]
end Go.Proofs.YtnajondbdeclmaaGreatDoor
