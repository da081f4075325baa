/- The walk of DigitsShort. -/
import Derived.Test.YtnajondbdeclmaaGreatDoorFiveS
import Derived.Test.YtnajondbdeclmaaGreatDoorDigitsBackW
import Derived.Test.YtnajondbdeclmaaGreatDoorDigitsSideW
namespace Go.Proofs.YtnajondbdeclmaaGreatDoor.digitsShort
open Go.RowKit
set_option linter.unusedSimpArgs false
set_option linter.unusedVariables false

set_option maxRecDepth 100000 in
set_option maxHeartbeats 4000000 in
theorem short_same (n : Nat) (x c : Int) (ev : Value) (d : List UInt8) (w : World)
    (HP : Hid (∀ W, Calls Tryz.prog 13 #[.int .u64 (n : Int)] W fun e w' => e = .returned (.tuple #[.string ⟨d.toArray⟩, .int .i64 x, ev]) ∧ Below W.heap.size W w'))
    (HR : Hid (∀ W, Calls Tryz.prog 14 #[.int .u64 (n : Int)] W fun e w' => e = .returned (.tuple #[.string ⟨d.toArray⟩, .int .i64 x, .int .i64 c]) ∧ Below W.heap.size W w'))
    (HN : Hid (∀ W, Calls Tryz.prog 15 #[ev] W fun e w' => e = .returned (.int .i64 c) ∧ W = w'))
    (HW : Hid (∀ W, Below w.heap.size w W → Calls Tryz.prog 16 #[] W fun e w' => e = .returned (.bool true) ∧ Below W.heap.size W w')) :
    Calls Tryz.prog 3 #[.int .u64 (n : Int)] w fun e w' => e = .returned (.bool true) ∧ Below w.heap.size w w' := by
  go_enter Tryz.func3, Tryz.ntmps3
  go_wp2_with fail
  refine (HP.out _).mono ?_
  rintro e w1 ⟨rfl, hb⟩
  have BB := Lib.hid hb
  clear hb
  go_wp2_with fail
  refine (HR.out _).mono ?_
  rintro e w2 ⟨rfl, hb⟩
  have BB := Lib.hid (keepb BB.out hb)
  clear hb
  go_wp2_with fail
  refine (HN.out _).mono ?_
  rintro e w3 ⟨rfl, rfl⟩
  go_wp2_with fail
  refine (HW.out _ BB.out).mono ?_
  rintro e w4 ⟨rfl, hb⟩
  have BB := Lib.hid (keepb BB.out hb)
  clear hb
  go_wp2_with fail
  go_ret
  exact ⟨rfl, BB.out⟩
theorem walk (a0 : Int) (w : World) (w0 : (Lit.int .u64 a0).wf = true) (ht : Tab w) :
    Calls Tryz.prog 3 #[.int .u64 a0] w fun e w' => e = .returned (.bool true) ∧ Below w.heap.size w w' := by
  obtain ⟨n, rfl, hn⟩ := word_wf w0
  clear w0
  have hW := Lib.hid (fun W (h : Below w.heap.size w W) => works_yes W (ht.below h))
  have hS := fun W => dshort_any n W hn
  unfold shortV at hS
  by_cases h : most < n % 9223372036854775808
  · rw [if_pos h] at hS
    exact short_same n _ _ _ _ w (Lib.hid hS) (Lib.hid (fun W => rshort_inf n W hn h)) (Lib.hid (fun W => number5 50 W rfl)) hW
  · rw [if_neg h] at hS
    by_cases h0 : n % 9223372036854775808 = 0
    · have hz : shortR 0 = ([48], 1) := by unfold shortR; rw [if_pos rfl]
      rw [h0, hz] at hS
      exact short_same n _ _ _ _ w (Lib.hid hS) (Lib.hid (fun W => rshort_zero n W hn h0)) (Lib.hid (fun W => number5_nil W)) hW
    · have hR := fun W => rshort_fin n _ W hn rfl (by omega) h0
      generalize shortR (n % 9223372036854775808) = r at *
      exact short_same n _ _ _ _ w (Lib.hid hS) (Lib.hid hR) (Lib.hid (fun W => number5_nil W)) hW
end Go.Proofs.YtnajondbdeclmaaGreatDoor.digitsShort
