/- The walk of DigitsExact. -/
import Derived.Test.YtnajondbdeclmaaGreatDoorFiveX
import Derived.Test.YtnajondbdeclmaaGreatDoorDigitsBackW
import Derived.Test.YtnajondbdeclmaaGreatDoorDigitsSideW
namespace Go.Proofs.YtnajondbdeclmaaGreatDoor.digitsExact
open Go.RowKit
set_option linter.unusedSimpArgs false
set_option linter.unusedVariables false

set_option maxRecDepth 100000 in
set_option maxHeartbeats 4000000 in
theorem exact_same (n : Nat) (c : Int) (ev : Value) (d f t : List UInt8) (cl : Bool) (w : World)
    (HP : Hid (∀ W, Calls Tryz.prog 20 #[.int .u64 (n : Int)] W fun e w' => e = .returned (.tuple #[.string ⟨d.toArray⟩, ev]) ∧ Below W.heap.size W w'))
    (HR : Hid (∀ W, Calls Tryz.prog 21 #[.int .u64 (n : Int)] W fun e w' => e = .returned (.tuple #[.string ⟨d.toArray⟩, .int .i64 c]) ∧ Below W.heap.size W w'))
    (HPA : Hid (∀ W, Calls Tryz.prog 22 #[.int .u64 (n : Int)] W fun e w' => e = .returned (.tuple #[.agg #[.string ⟨f.toArray⟩, .string ⟨t.toArray⟩, .bool cl], ev]) ∧ Below W.heap.size W w'))
    (HRA : Hid (∀ W, Calls Tryz.prog 23 #[.int .u64 (n : Int)] W fun e w' => e = .returned (.tuple #[.agg #[.string ⟨f.toArray⟩, .string ⟨t.toArray⟩, .bool cl], .int .i64 c]) ∧ Below W.heap.size W w'))
    (HN : Hid (∀ W, Calls Tryz.prog 15 #[ev] W fun e w' => e = .returned (.int .i64 c) ∧ W = w'))
    (HW : Hid (∀ W, Below w.heap.size w W → Calls Tryz.prog 16 #[] W fun e w' => e = .returned (.bool true) ∧ Below W.heap.size W w')) :
    Calls Tryz.prog 5 #[.int .u64 (n : Int)] w fun e w' => e = .returned (.bool true) ∧ Below w.heap.size w w' := by
  go_enter Tryz.func5, Tryz.ntmps5
  go_wp2_with fail
  refine (HP.out _).mono ?_
  rintro e w1 ⟨rfl, hb⟩
  have BB := Lib.hid hb
  clear hb
  go_wp2_with fail
  refine (HR.out _).mono ?_
  rintro e w2 ⟨rfl, hb⟩
  have BB := Lib.hid (keepb BB.out hb)
  clear hb
  go_wp2_with fail
  refine (HPA.out _).mono ?_
  rintro e w3 ⟨rfl, hb⟩
  have BB := Lib.hid (keepb BB.out hb)
  clear hb
  have B0 := Lib.hid (Blk.new w3 40 #[.string ⟨f.toArray⟩, .string ⟨t.toArray⟩, .bool cl])
  have BB := Lib.hid (BB.out.alloc BB.out.size (.cells #[.string ⟨f.toArray⟩, .string ⟨t.toArray⟩, .bool cl] 40))
  go_wp2_with fail
  refine (HRA.out _).mono ?_
  rintro e w4 ⟨rfl, hb⟩
  have B0 := Lib.hid ((B0.out.st hb).alloc (.cells #[.string ⟨f.toArray⟩, .string ⟨t.toArray⟩, .bool cl] 40))
  have BB := Lib.hid (keepb BB.out hb)
  have B1 := Lib.hid (Blk.new w4 40 #[.string ⟨f.toArray⟩, .string ⟨t.toArray⟩, .bool cl])
  have BB := Lib.hid (BB.out.alloc BB.out.size (.cells #[.string ⟨f.toArray⟩, .string ⟨t.toArray⟩, .bool cl] 40))
  clear hb
  obtain ⟨c0, c1, c2, _, _, _⟩ := B0.out.three
  obtain ⟨d0, d1, d2, _, _, _⟩ := B1.out.three
  go_wp2_with fail
  refine (HN.out _).mono ?_
  rintro e w5 ⟨rfl, rfl⟩
  go_wp2_with fail
  refine (HN.out _).mono ?_
  rintro e w5 ⟨rfl, rfl⟩
  go_wp2_with fail
  refine (HW.out _ BB.out).mono ?_
  rintro e w6 ⟨rfl, hb⟩
  have BB := Lib.hid (keepb BB.out hb)
  clear hb
  go_wp2_with fail
  go_ret
  exact ⟨rfl, BB.out⟩
theorem walk (a0 : Int) (w : World) (w0 : (Lit.int .u64 a0).wf = true) (ht : Tab w) :
    Calls Tryz.prog 5 #[.int .u64 a0] w fun e w' => e = .returned (.bool true) ∧ Below w.heap.size w w' := by
  obtain ⟨n, rfl, hn⟩ := word_wf w0
  clear w0
  have hW := Lib.hid (fun W (h : Below w.heap.size w W) => works_yes W (ht.below h))
  by_cases h : most < n % 9223372036854775808
  · exact exact_same n _ _ _ _ _ _ w (Lib.hid (fun W => exact_inf n W hn h)) (Lib.hid (fun W => rexact_inf n W hn h)) (Lib.hid (fun W => around_inf n W hn h)) (Lib.hid (fun W => raround_inf n W hn h)) (Lib.hid (fun W => number5 50 W rfl)) hW
  · obtain ⟨b, hb⟩ : ∃ b, n % 9223372036854775808 = b := ⟨_, rfl⟩
    have hf : b ≤ most := by omega
    have H1 := Lib.hid (fun W => exact_fin n b W hn hb hf)
    have H2 := Lib.hid (fun W => rexact_fin n b W hn hb hf)
    have H3 := Lib.hid (fun W => around_fin n b W hn hb hf)
    have H4 := Lib.hid (fun W => raround_fin n b W hn hb hf)
    generalize gS (decide (9223372036854775808 < n)) ++ formN (sz b) = d at *
    generalize formN (fromN b) = f at *
    generalize formN (toN b) = t at *
    exact exact_same n 0 .nilIface d f t (b % 2 == 0) w H1 H2 H3 H4 (Lib.hid (fun W => number5_nil W)) hW
end Go.Proofs.YtnajondbdeclmaaGreatDoor.digitsExact
