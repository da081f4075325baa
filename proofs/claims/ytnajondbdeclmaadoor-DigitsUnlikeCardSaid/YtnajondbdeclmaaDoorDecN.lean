/- The walks of dec.Round, Bits, Parts. The contracts of the law's number, spot, wakes, literal. -/
import Derived.Test.YtnajondbdeclmaaDoorDecJ
import Derived.Test.YtnajondbdeclmaaDoorDecD
namespace Go.Proofs.YtnajondbdeclmaaDoor
open Go.RowKit
set_option linter.unusedSimpArgs false
set_option linter.unusedVariables false

end Go.Proofs.YtnajondbdeclmaaDoor

namespace Go.Proofs.YtnajondbdeclmaaDoor
open Go.RowKit
set_option linter.unusedSimpArgs false
set_option linter.unusedVariables false

theorem ta_eno (n : Int) (w : World) : (Instr.typeAssert (enoV n) 26 36 true).run Tryd.prog w = .ok (.tuple #[.int .i64 n, .bool true]) w := by kernel_rfl
theorem ta_spot (n q : Int) (w : World) : (Instr.typeAssert (spotV n q) 26 69 true).run Tryd.prog w = .ok (.tuple #[.agg #[.int .i64 n, .int .i64 q], .bool true]) w := by kernel_rfl
/-- The literal that a text is turned to. -/
def litOf (s : List UInt8) : List UInt8 := match wrongP s with
  | none => s
  | some _ => [48]
theorem litOf_ok (s : List UInt8) : wrongP (litOf s) = none := by
  unfold litOf
  cases h : wrongP s with
  | none => exact h
  | some q => show wrongP [48] = none; decide
theorem litOf_len {s : List UInt8} {n : Nat} (h : s.length ≤ n) (hn : 1 ≤ n) : (litOf s).length ≤ n := by
  unfold litOf
  cases wrongP s with
  | none => exact h
  | some q => exact hn
theorem ba_list (b : ByteArray) : ∃ l : List UInt8, b = ⟨l.toArray⟩ := ⟨b.data.toList, by cases b; rfl⟩
end Go.Proofs.YtnajondbdeclmaaDoor
