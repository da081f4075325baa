/-
  Proved: 'BaseNames' answers true: the numbers of the alphabets and errors, what a nil writer tells, and ff for the byte 255. No condition.
-/
import Derived.Test.YtdlplmflimleaaaBaseF
import Derived.Test.YtdlplmflimleaaaMemB
import Derived.WalkKit
import Derived.ProofKit
import Derived.OpenShut
import Derived.ShutString
import Derived.ChangeOld
import Derived.Below
namespace Go.Proofs.Ytdlplmflimleaaa.baseNames
open Go.ChangeShapes Go.WideShapes Go.ChangeAt Go.RowKit
open Go.ChangeMaps (open_string shut_string)
set_option linter.unusedVariables false
set_option linter.unusedSimpArgs false

theorem own : ownKnob Try.prog.godebug = none := by kernel_rfl
theorem laidOut : laidOutB Try.prog = true := by kernel_rfl

theorem walk  (w : World)  :
    Calls Try.prog 6 #[] w fun e w' => e = .returned (.bool true) ∧ Below w.heap.size w w' := by
  have hff : (⟨(lets 1 4 [255]).toArray⟩ : ByteArray) = ⟨#[102, 102]⟩ := by decide
  have hrb : RB ((w.alloc (.cells #[.int .u8 1] 5)).alloc (.cells #[.int .u8 255] 5)) (w.heap.size + 2) (some ⟨w.heap.size + 1, 0, none⟩) 1 [255] := by
    have hb : Blk ((w.alloc (.cells #[.int .u8 1] 5)).alloc (.cells #[.int .u8 255] 5)) (w.heap.size + 1) 5 #[.int .u8 255] := by
      have := Blk.new (w.alloc (.cells #[.int .u8 1] 5)) 5 #[.int .u8 255]
      rwa [show (w.alloc (.cells #[.int .u8 1] 5)).heap.size = w.heap.size + 1 by simp] at this
    refine hb.rb [255] 1 rfl fun j hj => ?_
    obtain rfl : j = 0 := by simpa using hj
    rfl
  have hbl : Below w.heap.size w ((w.alloc (.cells #[.int .u8 1] 5)).alloc (.cells #[.int .u8 255] 5)) := ((Below.refl _ _).alloc (Nat.le_refl _) _).alloc (by simp) _
  have hsz : w.heap.size + 2 ≤ ((w.alloc (.cells #[.int .u8 1] 5)).alloc (.cells #[.int .u8 255] 5)).heap.size := by simp
  go_enter Try.func6, Try.ntmps6
  go_wp2_with fail
  refine (Put_nil _ _).mono ?_
  rintro e w1 ⟨rfl, rfl⟩
  go_wp2_with fail
  refine (End_nil _).mono ?_
  rintro e w2 ⟨rfl, rfl⟩
  go_wp2_with fail
  generalize (w.alloc (.cells #[.int .u8 1] 5)).alloc (.cells #[.int .u8 255] 5) = w1 at *
  refine (hex_any _ 1 1 _ [255] _ hrb hsz (by decide)).mono ?_
  rintro e w3 ⟨rfl, hb⟩
  rw [hff]
  clear hrb hsz
  go_wp2_with fail
  go_ret
  exact ⟨rfl, keepb hbl hb⟩

set_option maxRecDepth 100000 in
theorem lifted (os : Os) (started : os.Started) (H : Type) (enc : TypeId × Value → H) :
    ReturnsInHanded {} Try.checked os 6 .any (Rows.baseNamesSpec.pre6 enc Try.prog Try.f6 Rows.baseNamesRow.domain false) (Rows.baseNamesSpec.post enc Try.prog Try.f6 false true false false) := by
  refine returnsInHanded_of_change (C := Try.checked) own started (by kernel_rfl) Try.func6
    (ChangeSpec.witness6 (enc := enc) (C := Try.checked) false ⟨#[], #[], []⟩ 8 (by kernel_rfl) (by kernel_rfl) (by kernel_rfl) (by kernel_rfl)) ?_
  intro W base args ds gs before hval0 hW hcnd _
  have hval : ∀ (j : Nat) t v, Try.f6.params[j]? = some t → args[j]? = some v → Value.okWide Try.prog W .any base t v := hval0
  have hW' := hW
  obtain ⟨p, q, hA0, hV, rfl, hfz, hnd⟩ := hW
  have hA : DataW.TrodAll enc Try.prog W 0 (fun _ => true) true Try.f6.params.toList args.toList ds p := hA0
  rw [Try.params6] at hA hval
  obtain ⟨rfl, rfl, rfl⟩ := trodAll_none hA
  obtain ⟨rfl, rfl⟩ := trodVars_none hV

  clear hA0 hval0
  refine (walk  W ).mono fun e W' ⟨he, bel⟩ => ?_
  subst he
  exact ⟨_, rfl, _, _, _, [], _, [], hW', trodAll_mk1 (shut_bool Try.underlying4 _), trodAll_mk0, rfl, bel.frame _, fun h => by cases h⟩

theorem over : Rows.baseNamesRow.holds Try.pinned (OpenSpec.ofChange Rows.baseNamesSpec) :=
  OpenClaim.holds_of_wide 6 Try.f6 rfl rfl rfl rfl rfl rfl rfl ⟨rfl, rfl, rfl, rfl, rfl⟩ rfl rfl rfl rfl rfl (by kernel_rfl) Try.func6 (by kernel_rfl)
    (of_decide_eq_true (by kernel_rfl)) (by unfold Func.isWrapper; first | (rw [if_pos (by decide +kernel)]; kernel_rfl) | (rw [if_neg (by decide +kernel)]; exact ⟨rfl, rfl⟩))
    (fun os started H enc _ => lifted os started H enc)

theorem proved : Rows.BaseNamesSaid := over
#print axioms proved
end Go.Proofs.Ytdlplmflimleaaa.baseNames
