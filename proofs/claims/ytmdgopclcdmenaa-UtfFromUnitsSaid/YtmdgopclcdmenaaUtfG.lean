/- The contracts of errors.Is over a Spot and its number, and of the law's spot and tells. -/
import Derived.Test.YtmdgopclcdmenaaUtfF
namespace Go.Proofs.Ytmdgopclcdmenaa
open Go.RowKit Go.Extern.Stop Go.Stop Go.Extern Go.Lib
set_option linter.unusedSimpArgs false
set_option linter.unusedVariables false

theorem isTypeOf (v : Value) (w : World) : (Extern.ReflectliteType.typeOf #[.iface 30 v]).run Try.prog w = .ok (.iface 118 (.agg #[.pointer (some ⟨0, 30, none⟩)])) w := by kernel_rfl
theorem callComparable (w : World) : (callFunc 96 #[.agg #[.pointer (some ⟨0, 30, none⟩)]]).run Try.prog w = .ok (Next.value (.bool true)) w := by
  rw [@run_callFunc_extern Try.prog 96 _ (Extern.ReflectliteType.method fun t => do Extern.Rtype.noPackHeld "Comparable" t; pure (.bool (← typeInfo t).comparable)) Try.func96 (by kernel_rfl) (by kernel_rfl) (by kernel_rfl) (by kernel_rfl)]
  have h : ((Extern.ReflectliteType.method fun t => do Extern.Rtype.noPackHeld "Comparable" t; pure (.bool (← typeInfo t).comparable)) #[.agg #[.pointer (some ⟨0, 30, none⟩)]]).run Try.prog w = .ok (.bool true) w := by kernel_rfl
  rw [h]
  rfl
theorem isComp : (Try.prog.info? 30).map (·.comparable) = some true := by kernel_rfl
theorem noIsS (v : Value) (xT : TypeId) (w : World) : (Instr.typeAssert (.iface 83 v) xT 120 true).run Try.prog w = .ok (.tuple #[.nilIface, .bool false]) w := run_typeAssert_lacksB Try.underlying120 (by kernel_rfl) (by kernel_rfl) v xT w
theorem hasUnwrapS (v : Value) (xT : TypeId) (w : World) : (Instr.typeAssert (.iface 83 v) xT 123 true).run Try.prog w = .ok (.tuple #[.iface 83 v, .bool true]) w := run_typeAssert_hasB Try.underlying123 (by kernel_rfl) v xT w
theorem hasPlaceS (v : Value) (xT : TypeId) (w : World) : (Instr.typeAssert (.iface 83 v) xT 94 true).run Try.prog w = .ok (.tuple #[.iface 83 v, .bool true]) w := run_typeAssert_hasB Try.underlying94 (by kernel_rfl) v xT w
theorem noWhereS (v : Value) (xT : TypeId) (w : World) : (Instr.typeAssert (.iface 83 v) xT 97 true).run Try.prog w = .ok (.tuple #[.nilIface, .bool false]) w := run_typeAssert_lacksB Try.underlying97 (by kernel_rfl) (by kernel_rfl) v xT w

theorem unwrap_any (no at_ : Int) (w : World) :
    Calls Try.prog 91 #[.agg #[.int .i64 no, .int .i64 at_]] w fun e w' => e = .returned (eno no) ∧ Below w.heap.size w w' := by
  go_enter Try.func91, Try.ntmps91
  go_wp2
  go_ret
  exact ⟨rfl, (Below.refl _ _).alloc (Nat.le_refl _) _⟩
theorem place_any (no at_ : Int) (w : World) :
    Calls Try.prog 90 #[.agg #[.int .i64 no, .int .i64 at_]] w fun e w' => e = .returned (.int .i64 at_) ∧ Below w.heap.size w w' := by
  go_enter Try.func90, Try.ntmps90
  go_wp2
  go_ret
  exact ⟨rfl, (Below.refl _ _).alloc (Nat.le_refl _) _⟩

set_option maxRecDepth 100000 in
theorem is_spot (no at_ : Int) (w : World) :
    Calls Try.prog 54 #[spotE no at_, eno no] w fun e w' => e = .returned (.bool true) ∧ Below w.heap.size w w' := by
  have h8 := @run_callFunc_extern Try.prog 64 _ Extern.ReflectliteType.typeOf Try.func64 (by kernel_rfl) (by kernel_rfl) (by kernel_rfl) (by kernel_rfl)
  have h32 := callComparable
  have tT := isTypeOf
  have nS := noIsS
  have uS := hasUnwrapS
  have hty := run_eql_iface_types (P := Try.prog) 83 30 (.agg #[.int .i64 no, .int .i64 at_]) (.int .i64 no) Try.underlying24 (by decide) w
  go_enter Try.func54, Try.ntmps54
  go_wp2
  have hi := fun W => run_eql_iface_int (P := Try.prog) W (k := .i64) no no Try.underlying24 isComp Try.underlying30
  refine wp_loop_rounds 2 ?_
  rw [rounds_succ]
  go_wp2_with (go_at_call 91; refine (unwrap_any _ _ _).mono ?_; rintro e w1 ⟨rfl, hb⟩)
  rw [rounds_succ]
  go_wp2
  go_ret
  exact ⟨rfl, hb⟩

set_option maxRecDepth 100000 in
theorem spot_yes (no at_ : Int) (w : World) :
    Calls Try.prog 30 #[spotE no at_, .int .i64 no, .int .i64 at_] w fun e w' => e = .returned (.bool true) ∧ Below w.heap.size w w' := by
  have ta := ta_spot no at_
  have tp := hasPlaceS (.agg #[.int .i64 no, .int .i64 at_])
  have tw := noWhereS (.agg #[.int .i64 no, .int .i64 at_])
  have h1 : (no == no) = true := by simp
  have h2 : (at_ == at_) = true := by simp
  have h3 : (no != no) = false := by simp
  have h4 : (at_ != at_) = false := by simp
  go_enter Try.func30, Try.ntmps30
  go_wp2_with fail
  refine (place_any _ _ _).mono ?_
  rintro e w1 ⟨rfl, hb1⟩
  go_wp2_with fail
  refine (is_spot _ _ _).mono ?_
  rintro e w2 ⟨rfl, hb2⟩
  go_wp2_with fail
  go_ret
  exact ⟨rfl, keepb (keepb ((Below.refl _ _).alloc (Nat.le_refl _) _) hb1) hb2⟩

/-- The law's tells. -/
def ErrIs (no : Nat) (at_ : Nat) (v : Value) : Prop := v = if no = 0 then .nilIface else spotE no at_
theorem tells_any (no at_ : Nat) (v : Value) (w : World) (h : ErrIs no at_ v) :
    Calls Try.prog 37 #[v, .int .i64 no, .int .i64 at_] w fun e w' => e = .returned (.bool true) ∧ Below w.heap.size w w' := by
  unfold ErrIs at h
  by_cases h0 : no = 0
  · rw [if_pos h0] at h
    subst h h0
    go_enter Try.func37, Try.ntmps37
    go_wp2
    go_ret
    exact ⟨rfl, Below.refl _ _⟩
  · rw [if_neg h0] at h
    subst h
    have hz : ((no : Int) == 0) = false := by simpa using h0
    go_enter Try.func37, Try.ntmps37
    go_wp2_with fail
    refine (spot_yes _ _ _).mono ?_
    rintro e w1 ⟨rfl, hb1⟩
    go_wp2_with fail
    go_ret
    exact ⟨rfl, hb1⟩
end Go.Proofs.Ytmdgopclcdmenaa
