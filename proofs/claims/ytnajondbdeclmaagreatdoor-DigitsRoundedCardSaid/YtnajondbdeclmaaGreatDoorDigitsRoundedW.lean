/- The walk of DigitsRounded. -/
import Derived.Test.YtnajondbdeclmaaGreatDoorFiveR
import Derived.Test.YtnajondbdeclmaaGreatDoorDigitsBackW
import Derived.Test.YtnajondbdeclmaaGreatDoorDigitsSideW
namespace Go.Proofs.YtnajondbdeclmaaGreatDoor.digitsRounded
open Go.RowKit
set_option linter.unusedSimpArgs false
set_option linter.unusedVariables false

set_option maxRecDepth 100000 in
set_option maxHeartbeats 4000000 in
theorem rounded_same (n : Nat) (k x c : Int) (ev : Value) (d : List UInt8) (w : World)
    (HP : Hid (∀ W, Calls Tryz.prog 24 #[.int .u64 (n : Int), .int .i64 k] W fun e w' => e = .returned (.tuple #[.string ⟨d.toArray⟩, .int .i64 x, ev]) ∧ Below W.heap.size W w'))
    (HR : Hid (∀ W, Calls Tryz.prog 25 #[.int .u64 (n : Int), .int .i64 k] W fun e w' => e = .returned (.tuple #[.string ⟨d.toArray⟩, .int .i64 x, .int .i64 c]) ∧ Below W.heap.size W w'))
    (HN : Hid (∀ W, Calls Tryz.prog 15 #[ev] W fun e w' => e = .returned (.int .i64 c) ∧ W = w'))
    (HW : Hid (∀ W, Below w.heap.size w W → Calls Tryz.prog 16 #[] W fun e w' => e = .returned (.bool true) ∧ Below W.heap.size W w')) :
    Calls Tryz.prog 6 #[.int .u64 (n : Int), .int .i64 k] w fun e w' => e = .returned (.bool true) ∧ Below w.heap.size w w' := by
  go_enter Tryz.func6, Tryz.ntmps6
  go_wp2_with fail
  refine (HP.out _).mono ?_
  rintro e w1 ⟨rfl, hb⟩
  have BB := Lib.hid hb
  clear hb
  go_wp2_with fail
  refine (HR.out _).mono ?_
  rintro e w2 ⟨rfl, hb⟩
  have BB := Lib.hid (keepb BB.out hb)
  clear hb
  go_wp2_with fail
  refine (HN.out _).mono ?_
  rintro e w3 ⟨rfl, rfl⟩
  go_wp2_with fail
  refine (HW.out _ BB.out).mono ?_
  rintro e w4 ⟨rfl, hb⟩
  have BB := Lib.hid (keepb BB.out hb)
  clear hb
  go_wp2_with fail
  go_ret
  exact ⟨rfl, BB.out⟩
theorem walk (a0 a1 : Int) (w : World) (w0 : (Lit.int .u64 a0).wf = true) (w1 : (Lit.int .i64 a1).wf = true) (ht : Tab w) :
    Calls Tryz.prog 6 #[.int .u64 a0, .int .i64 a1] w fun e w' => e = .returned (.bool true) ∧ Below w.heap.size w w' := by
  obtain ⟨n, rfl, hn⟩ := word_wf w0
  clear w0 w1
  have hW := Lib.hid (fun W (h : Below w.heap.size w W) => works_yes W (ht.below h))
  by_cases h : most < n % 9223372036854775808
  · exact rounded_same n a1 _ _ _ _ w (Lib.hid (fun W => rounded_inf n a1 W hn h)) (Lib.hid (fun W => rrounded_inf n a1 W hn h)) (Lib.hid (fun W => number5 50 W rfl)) hW
  · by_cases hk : a1 < 1 ∨ 800 < a1
    · exact rounded_same n a1 _ _ _ _ w (Lib.hid (fun W => rounded_bad n a1 W hn (by omega) hk)) (Lib.hid (fun W => rrounded_bad n a1 W hn (by omega) hk)) (Lib.hid (fun W => number5 2 W rfl)) hW
    · by_cases h0 : n % 9223372036854775808 = 0
      · exact rounded_same n a1 _ _ _ _ w (Lib.hid (fun W => rounded_zero n a1 W hn h0 (by omega) (by omega))) (Lib.hid (fun W => rrounded_zero n a1 W hn h0 (by omega) (by omega))) (Lib.hid (fun W => number5_nil W)) hW
      · obtain ⟨k, rfl⟩ : ∃ k : Nat, a1 = k := ⟨a1.toNat, by omega⟩
        exact rounded_same n k _ _ _ _ w (Lib.hid (fun W => rounded_fin n _ k W hn rfl (by omega) h0 (by omega) (by omega))) (Lib.hid (fun W => rrounded_fin n _ k W hn rfl (by omega) h0 (by omega) (by omega))) (Lib.hid (fun W => number5_nil W)) hW
end Go.Proofs.YtnajondbdeclmaaGreatDoor.digitsRounded
