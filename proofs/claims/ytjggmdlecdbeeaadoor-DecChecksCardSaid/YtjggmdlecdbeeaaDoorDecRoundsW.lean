/- The walk of DecRounds. -/
import Derived.Test.YtjggmdlecdbeeaaDoorRefG
namespace Go.Proofs.YtjggmdlecdbeeaaDoor.decRounds
open Go.RowKit
set_option linter.unusedSimpArgs false
set_option linter.unusedVariables false

theorem rw_some {s : List UInt8} {q : Nat} (h : wrongP s = some q) : rwrongV s = (q : Int) := by unfold rwrongV; rw [h]
theorem rw_none {s : List UInt8} (h : wrongP s = none) : rwrongV s = -1 := by unfold rwrongV; rw [h]
theorem okd_bare {s : List UInt8} (h : s.length ≤ 140737488351300) : Okd (bareP s) := by
  have hl := bareP_len s
  exact ⟨bareP_bare s, by omega, by omega, by omega⟩

set_option maxRecDepth 100000 in
set_option maxHeartbeats 4000000 in
theorem walk (a0 : ByteArray) (a1 : Int) (w : World) (w0 : a0.size ≤ maxLen) (s0 : a0.size ≤ 140737488351232) (w1 : (Lit.int .i64 a1).wf = true) :
    Calls Tryd.prog 3 #[.string a0, .int .i64 a1] w fun e w' => e = .returned (.bool true) ∧ Below w.heap.size w w' := by
  obtain ⟨a, rfl⟩ := ba_list a0
  rw [sv_len] at s0
  clear w0 w1
  by_cases hw : 1 ≤ a1 ∧ a1 ≤ 5
  · obtain ⟨hw1, hw5⟩ := hw
    have t1 : decide (a1 < 1) = false := decide_eq_false (by omega)
    have t2 : decide (5 < a1) = false := decide_eq_false (by omega)
    have HWA := Lib.hid (fun W => rwrong_any a W (by omega))
    cases qa : wrongP a with
    | some q =>
      have HC := Lib.hid (fun W => round_wrong a a1 q W (by omega) (decide_eq_true ⟨hw1, hw5⟩) qa)
      rw [rw_some qa] at HWA
      have t3 : decide ((0 : Int) ≤ (q : Int)) = true := decide_eq_true (by omega)
      clear qa s0 hw1 hw5
      unfold sv at *
      go_enter Tryd.func3, Tryd.ntmps3
      go_wp2_with fail
      refine (HC.out _).mono ?_
      rintro e w1 ⟨rfl, hb⟩
      have HB := Lib.hid hb
      clear hb
      go_wp2_with fail
      refine (HWA.out _).mono ?_
      rintro e w2 ⟨rfl, rfl⟩
      go_wp2_with fail
      refine (spot_yes 40 (q : Int) _).mono ?_
      rintro e w3 ⟨rfl, hb⟩
      have HB := Lib.hid (keepb HB.out hb)
      clear hb
      go_wp2_with fail
      refine (wakes_yes _).mono ?_
      rintro e w4 ⟨rfl, hb⟩
      have HB := Lib.hid (keepb HB.out hb)
      clear hb
      go_wp2_with fail
      go_ret
      exact ⟨rfl, HB.out⟩
    | none =>
      rw [rw_none qa] at HWA
      have HC := Lib.hid (fun W => round_ok a a1 W (by omega) ⟨hw1, hw5⟩ qa)
      have HBA := Lib.hid (fun W => rbare_any a W (by omega) qa)
      have HRR := Lib.hid (fun W => rround_any (bareP a) a1 W (okd_bare (by omega)))
      obtain ⟨R, hR⟩ : ∃ R, roundP (bareP a) a1 = R := ⟨_, rfl⟩
      rw [hR] at HC HRR
      clear qa s0 hw1 hw5 hR
      generalize bareP a = d at *
      unfold sv at *
      cases R with
      | none =>
        unfold roundV roundR at *
        simp only at HC HRR
        go_enter Tryd.func3, Tryd.ntmps3
        go_wp2_with fail
        refine (HC.out _).mono ?_
        rintro e w1 ⟨rfl, hb⟩
        have HB := Lib.hid hb
        clear hb
        go_wp2_with fail
        refine (HWA.out _).mono ?_
        rintro e w2 ⟨rfl, rfl⟩
        go_wp2_with fail
        refine (HBA.out _).mono ?_
        rintro e w3 ⟨rfl, hb⟩
        have HB := Lib.hid (keepb HB.out hb)
        clear hb
        go_wp2_with fail
        refine (HRR.out _).mono ?_
        rintro e w4 ⟨rfl, hb⟩
        have HB := Lib.hid (keepb HB.out hb)
        clear hb
        go_wp2_with fail
        refine (number_yes 41 _).mono ?_
        rintro e w5 ⟨rfl, rfl⟩
        go_wp2_with fail
        refine (wakes_yes _).mono ?_
        rintro e w6 ⟨rfl, hb⟩
        have HB := Lib.hid (keepb HB.out hb)
        clear hb
        go_wp2_with fail
        go_ret
        exact ⟨rfl, HB.out⟩
      | some x =>
        unfold roundV roundR at *
        simp only at HC HRR
        have tc : ((x : Int) == (x : Int)) = true := by simp
        have tc' : (x == x) = true := by simp
        go_enter Tryd.func3, Tryd.ntmps3
        go_wp2_with fail
        refine (HC.out _).mono ?_
        rintro e w1 ⟨rfl, hb⟩
        have HB := Lib.hid hb
        clear hb
        go_wp2_with fail
        refine (HWA.out _).mono ?_
        rintro e w2 ⟨rfl, rfl⟩
        go_wp2_with fail
        refine (HBA.out _).mono ?_
        rintro e w3 ⟨rfl, hb⟩
        have HB := Lib.hid (keepb HB.out hb)
        clear hb
        go_wp2_with fail
        refine (HRR.out _).mono ?_
        rintro e w4 ⟨rfl, hb⟩
        have HB := Lib.hid (keepb HB.out hb)
        clear hb
        go_wp2_with fail
        refine (wakes_yes _).mono ?_
        rintro e w6 ⟨rfl, hb⟩
        have HB := Lib.hid (keepb HB.out hb)
        clear hb
        go_wp2_with fail
        go_ret
        exact ⟨rfl, HB.out⟩
  · have HC := Lib.hid (fun W => round_bad a a1 W (decide_eq_false hw))
    have hor : (decide (a1 < 1) = true) ∨ (decide (a1 < 1) = false ∧ decide (5 < a1) = true) := by
      by_cases h : a1 < 1
      · exact .inl (decide_eq_true h)
      · exact .inr ⟨decide_eq_false h, decide_eq_true (by omega)⟩
    clear hw s0
    unfold sv at *
    rcases hor with t1 | ⟨t1, t2⟩
    all_goals
      go_enter Tryd.func3, Tryd.ntmps3
      go_wp2_with fail
      refine (HC.out _).mono ?_
      rintro e w1 ⟨rfl, hb⟩
      have HB := Lib.hid hb
      clear hb
      go_wp2_with fail
      refine (number_yes 2 _).mono ?_
      rintro e w5 ⟨rfl, rfl⟩
      go_wp2_with fail
      refine (wakes_yes _).mono ?_
      rintro e w6 ⟨rfl, hb⟩
      have HB := Lib.hid (keepb HB.out hb)
      clear hb
      go_wp2_with fail
      go_ret
      exact ⟨rfl, HB.out⟩
end Go.Proofs.YtjggmdlecdbeeaaDoor.decRounds
