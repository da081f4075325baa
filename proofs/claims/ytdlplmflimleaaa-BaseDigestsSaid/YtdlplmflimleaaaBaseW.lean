/- The contracts of errors.Is over a Spot and its number, and of the law's spot. -/
import Derived.Test.YtdlplmflimleaaaBaseF
import Derived.Test.YtdlplmflimleaaaBaseR
import Derived.LaidEql
import Derived.Stop.Asserts
import Derived.RowKitTokens
import Derived.Lib.IfaceEq
namespace Go.Proofs.Ytdlplmflimleaaa
open Go.RowKit Go.Extern.Stop Go.Stop Go.Extern Go.Lib
set_option linter.unusedSimpArgs false
set_option linter.unusedVariables false

theorem isTypeOf (v : Value) (w : World) : (Extern.ReflectliteType.typeOf #[.iface 29 v]).run Try.prog w = .ok (.iface 91 (.agg #[.pointer (some ⟨0, 29, none⟩)])) w := by kernel_rfl
theorem callComparable (w : World) : (callFunc 69 #[.agg #[.pointer (some ⟨0, 29, none⟩)]]).run Try.prog w = .ok (Next.value (.bool true)) w := by
  rw [@run_callFunc_extern Try.prog 69 _ (Extern.ReflectliteType.method fun t => do Extern.Rtype.noPackHeld "Comparable" t; pure (.bool (← typeInfo t).comparable)) Try.func69 (by kernel_rfl) (by kernel_rfl) (by kernel_rfl) (by kernel_rfl)]
  have h : ((Extern.ReflectliteType.method fun t => do Extern.Rtype.noPackHeld "Comparable" t; pure (.bool (← typeInfo t).comparable)) #[.agg #[.pointer (some ⟨0, 29, none⟩)]]).run Try.prog w = .ok (.bool true) w := by kernel_rfl
  rw [h]
  rfl
theorem isComp : (Try.prog.info? 29).map (·.comparable) = some true := by kernel_rfl
theorem noIsS (v : Value) (xT : TypeId) (w : World) : (Instr.typeAssert (.iface 79 v) xT 93 true).run Try.prog w = .ok (.tuple #[.nilIface, .bool false]) w := run_typeAssert_lacksB Try.underlying93 (by kernel_rfl) (by kernel_rfl) v xT w
theorem hasUnwrapS (v : Value) (xT : TypeId) (w : World) : (Instr.typeAssert (.iface 79 v) xT 96 true).run Try.prog w = .ok (.tuple #[.iface 79 v, .bool true]) w := run_typeAssert_hasB Try.underlying96 (by kernel_rfl) v xT w

theorem unwrap_any (no at_ : Int) (w : World) :
    Calls Try.prog 65 #[.agg #[.int .i64 no, .int .i64 at_]] w fun e w' => e = .returned (eno no) ∧ Below w.heap.size w w' := by
  go_enter Try.func65, Try.ntmps65
  go_wp2
  go_ret
  exact ⟨rfl, (Below.refl _ _).alloc (Nat.le_refl _) _⟩

set_option maxRecDepth 100000 in
theorem is_spot (no at_ : Int) (w : World) :
    Calls Try.prog 43 #[spotE no at_, eno no] w fun e w' => e = .returned (.bool true) ∧ Below w.heap.size w w' := by
  have h8 := @run_callFunc_extern Try.prog 45 _ Extern.ReflectliteType.typeOf Try.func45 (by kernel_rfl) (by kernel_rfl) (by kernel_rfl) (by kernel_rfl)
  have h32 := callComparable
  have tT := isTypeOf
  have nS := noIsS
  have uS := hasUnwrapS
  have hty := run_eql_iface_types (P := Try.prog) 79 29 (.agg #[.int .i64 no, .int .i64 at_]) (.int .i64 no) Try.underlying24 (by decide) w
  go_enter Try.func43, Try.ntmps43
  go_wp2
  have hi := fun W => run_eql_iface_int (P := Try.prog) W (k := .i64) no no Try.underlying24 isComp Try.underlying29
  refine wp_loop_rounds 2 ?_
  rw [rounds_succ]
  go_wp2_with (go_at_call 65; refine (unwrap_any _ _ _).mono ?_; rintro e w1 ⟨rfl, hb⟩)
  trace_state
  rw [rounds_succ]
  go_wp2
  go_ret
  exact ⟨rfl, hb⟩
theorem ta_spot (no at_ : Int) (w : World) : (Instr.typeAssert (.iface 79 (.agg #[.int .i64 no, .int .i64 at_])) 24 79 true).run Try.prog w = .ok (.tuple #[.agg #[.int .i64 no, .int .i64 at_], .bool true]) w := by kernel_rfl

set_option maxRecDepth 100000 in
theorem spot_yes (no at_ : Int) (w : World) :
    Calls Try.prog 31 #[spotE no at_, .int .i64 no, .int .i64 at_] w fun e w' => e = .returned (.bool true) ∧ Below w.heap.size w w' := by
  have ta := ta_spot no at_
  have h1 : (no == no) = true := by simp
  have h2 : (at_ == at_) = true := by simp
  go_enter Try.func31, Try.ntmps31
  go_wp2_with fail
  refine (is_spot _ _ _).mono ?_
  rintro e w1 ⟨rfl, hb⟩
  go_wp2_with fail
  go_ret
  refine ⟨rfl, keepb ?_ hb⟩
  go_grown
end Go.Proofs.Ytdlplmflimleaaa
