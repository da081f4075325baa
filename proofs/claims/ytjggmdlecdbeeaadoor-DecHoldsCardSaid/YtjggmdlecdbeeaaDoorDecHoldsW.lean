/- The walk of DecHolds. -/
import Derived.Test.YtjggmdlecdbeeaaDoorDecRoundsW
namespace Go.Proofs.YtjggmdlecdbeeaaDoor.decHolds
open Go.RowKit
open decRounds (rw_some rw_none okd_bare)
set_option linter.unusedSimpArgs false
set_option linter.unusedVariables false

theorem top_bits (n : Nat) (hn : n < 18446744073709551616) : bits .and .u64 ((n / 4503599627370496 : Nat) : Int) 2047 = ((n / 4503599627370496 % 2048 : Nat) : Int) :=
  and_low (n / 4503599627370496) 11 (by unfold W64; omega) (by decide)
theorem fin_top (n : Nat) : finB n = true ↔ n / 4503599627370496 % 2048 ≠ 2047 := by
  unfold finB most
  rw [decide_eq_true_eq]
  omega

set_option maxRecDepth 100000 in
set_option maxHeartbeats 4000000 in
theorem walk (a0 : ByteArray) (a1 : Int) (w : World) (w0 : a0.size ≤ maxLen) (s0 : a0.size ≤ 140737488351232) (w1 : (Lit.int .u64 a1).wf = true) :
    Calls Tryd.prog 9 #[.string a0, .int .u64 a1] w fun e w' => e = .returned (.bool true) ∧ Below w.heap.size w w' := by
  obtain ⟨a, rfl⟩ := ba_list a0
  rw [sv_len] at s0
  have hwf : 0 ≤ a1 ∧ a1 ≤ 18446744073709551615 := by simpa [Lit.wf, IntKind.min, IntKind.max, IntKind.signed, IntKind.bits] using w1
  obtain ⟨n, hn⟩ : ∃ n : Nat, a1 = n := ⟨a1.toNat, by omega⟩
  subst hn
  have hn : n < 18446744073709551616 := by omega
  have e1 : (n : Int) / 4503599627370496 = ((n / 4503599627370496 : Nat) : Int) := by omega
  have e2 := top_bits n hn
  have hft := fin_top n
  have hnI : (n : Int) ≤ 18446744073709551615 := by omega
  clear w0 w1 hwf
  generalize hy : n / 4503599627370496 % 2048 = y at *
  generalize n / 4503599627370496 = z at *
  clear hy
  cases hf : finB n with
  | false =>
    have HC := Lib.hid (fun W => against_bad a n W hn hf)
    have hy : y = 2047 := by
      rcases Nat.decEq y 2047 with h | h
      · exact absurd (hft.2 h) (by rw [hf]; simp)
      · exact h
    have t1 : ((y : Int) == 2047) = true := by rw [beq_iff_eq]; omega
    clear hy hf hft hn s0
    unfold sv at *
    go_enter Tryd.func9, Tryd.ntmps9
    go_wp2_with fail
    refine (HC.out _).mono ?_
    rintro e w1 ⟨rfl, hb⟩
    have HB := Lib.hid hb
    clear hb
    go_wp2_with fail
    refine (number_yes 2 _).mono ?_
    rintro e w5 ⟨rfl, rfl⟩
    go_wp2_with fail
    refine (wakes_yes _).mono ?_
    rintro e w6 ⟨rfl, hb⟩
    have HB := Lib.hid (keepb HB.out hb)
    clear hb
    go_wp2_with fail
    go_ret
    exact ⟨rfl, HB.out⟩
  | true =>
    have hy : y ≠ 2047 := hft.1 hf
    have t1 : ((y : Int) == 2047) = false := by rw [beq_eq_false_iff_ne]; omega
    have HWA := Lib.hid (fun W => rwrong_any a W (by omega))
    cases qa : wrongP a with
    | some q =>
      have HC := Lib.hid (fun W => against_wrong a n q W (by omega) hn hf qa)
      rw [rw_some qa] at HWA
      have t3 : decide ((0 : Int) ≤ (q : Int)) = true := decide_eq_true (by omega)
      clear qa s0 hy hf hft hn
      unfold sv at *
      go_enter Tryd.func9, Tryd.ntmps9
      go_wp2_with fail
      refine (HC.out _).mono ?_
      rintro e w1 ⟨rfl, hb⟩
      have HB := Lib.hid hb
      clear hb
      go_wp2_with fail
      refine (HWA.out _).mono ?_
      rintro e w2 ⟨rfl, rfl⟩
      go_wp2_with fail
      refine (spot_yes 40 (q : Int) _).mono ?_
      rintro e w3 ⟨rfl, hb⟩
      have HB := Lib.hid (keepb HB.out hb)
      clear hb
      go_wp2_with fail
      refine (wakes_yes _).mono ?_
      rintro e w4 ⟨rfl, hb⟩
      have HB := Lib.hid (keepb HB.out hb)
      clear hb
      go_wp2_with fail
      go_ret
      exact ⟨rfl, HB.out⟩
    | none =>
      rw [rw_none qa] at HWA
      have HC := Lib.hid (fun W => against_ok a n W (by omega) hn hf qa)
      have HBA := Lib.hid (fun W => rbare_any a W (by omega) qa)
      have HTO := Lib.hid (fun W => rto_any (bareP a) n W (okd_bare (by omega)) hn (of_decide_eq_true hf))
      clear qa s0 hy hf hft hn
      generalize againP (bareP a) n = c at *
      generalize bareP a = d at *
      have tc : ((c : Int) == (c : Int)) = true := by simp
      unfold sv at *
      go_enter Tryd.func9, Tryd.ntmps9
      go_wp2_with fail
      refine (HC.out _).mono ?_
      rintro e w1 ⟨rfl, hb⟩
      have HB := Lib.hid hb
      clear hb
      go_wp2_with fail
      refine (HWA.out _).mono ?_
      rintro e w2 ⟨rfl, rfl⟩
      go_wp2_with fail
      refine (HBA.out _).mono ?_
      rintro e w3 ⟨rfl, hb⟩
      have HB := Lib.hid (keepb HB.out hb)
      clear hb
      go_wp2_with fail
      refine (HTO.out _).mono ?_
      rintro e w4 ⟨rfl, hb⟩
      have HB := Lib.hid (keepb HB.out hb)
      clear hb
      go_wp2_with fail
      refine (wakes_yes _).mono ?_
      rintro e w6 ⟨rfl, hb⟩
      have HB := Lib.hid (keepb HB.out hb)
      clear hb
      go_wp2_with fail
      go_ret
      exact ⟨rfl, HB.out⟩
end Go.Proofs.YtjggmdlecdbeeaaDoor.decHolds
