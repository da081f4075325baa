/- The walk of DecValues. -/
import Derived.Test.YtjggmdlecdbeeaaGreatDoorDecZ
namespace Go.Proofs.YtjggmdlecdbeeaaGreatDoor.decValues
open Go.RowKit
set_option linter.unusedSimpArgs false
set_option linter.unusedVariables false

theorem okd_strip {d : Dm} (hl : d.2.1.length ≤ 140737488351300) (hm : mayP d = true) : Okd (stripD d) := by
  have hnr := mayP_near hm
  have hsl := stripD_len d 1099511627776 (by omega) hnr.1 hnr.2
  exact ⟨stripD_bare d (mayP_digits hm), by omega, by omega, by omega⟩

set_option maxRecDepth 100000 in
set_option maxHeartbeats 4000000 in
theorem walk (g : Bool) (l : List UInt8) (x a1 : Int) (w : World) (s0 : l.length ≤ 140737488351232) (ht : Tab w) :
    Calls Tryz.prog 3 #[decV (g, l, x), .int .i64 a1] w fun e w' => e = .returned (.bool true) ∧ Below w.heap.size w w' := by
  have HMA := Lib.hid (fun W => rmay_any (g, l, x) W (by simp only; omega))
  have HTW := Lib.hid (fun W => twin_any (g, l, x) W)
  have HK0 := Lib.hid (Blk.new w 23 #[.bool g, .string ⟨l.toArray⟩, .int .i64 x])
  have HB0 := Lib.hid (below_new w (.cells #[.bool g, .string ⟨l.toArray⟩, .int .i64 x] 23))
  have HT0 := Lib.hid (ht.below HB0.out)
  clear ht
  cases hm : mayP (g, l, x) with
  | false =>
    have HP := Lib.hid (fun W => print_bad (g, l, x) W (by simp only; omega) hm)
    have HV := Lib.hid (fun W => value_bad (g, l, x) a1 W (by simp only; omega) (.inl hm))
    rw [hm] at HMA
    clear hm s0 HT0
    unfold decV sv at *
    go_enter Tryz.func3, Tryz.ntmps3
    go_wp2_with fail
    refine (HP.out _).mono ?_
    rintro e w1 ⟨rfl, hb⟩
    have HB := Lib.hid (keepb HB0.out hb)
    have HK := Lib.hid (HK0.out.below hb HK0.out.lt)
    obtain ⟨c0, c1, c2, f0, f1, f2⟩ := HK.out.three
    clear hb
    go_wp2_with fail
    refine (HV.out _).mono ?_
    rintro e w2 ⟨rfl, hb⟩
    have HB := Lib.hid (keepb HB.out hb)
    have HK := Lib.hid (HK.out.below hb HK.out.lt)
    clear hb c0 c1 c2 f0 f1 f2
    obtain ⟨c0, c1, c2, f0, f1, f2⟩ := HK.out.three
    go_wp2_with fail
    refine (HTW.out _).mono ?_
    rintro e w3 ⟨rfl, hb⟩
    have HB := Lib.hid (keepb HB.out hb)
    clear hb c0 c1 c2 f0 f1 f2
    go_wp2_with fail
    refine (HMA.out _).mono ?_
    rintro e w4 ⟨rfl, hb⟩
    have HB := Lib.hid (keepb HB.out hb)
    clear hb
    go_wp2_with fail
    refine (number_yes 2 _).mono ?_
    rintro e w5 ⟨rfl, rfl⟩
    go_wp2_with fail
    refine (number_yes 2 _).mono ?_
    rintro e w5 ⟨rfl, rfl⟩
    go_wp2_with fail
    refine (wakes_yes _).mono ?_
    rintro e w6 ⟨rfl, hb⟩
    have HB := Lib.hid (keepb HB.out hb)
    clear hb
    go_wp2_with fail
    go_ret
    exact ⟨rfl, HB.out⟩
  | true =>
    have HP := Lib.hid (fun W (h : Tab W) => print_ok (g, l, x) W (by simp only; omega) hm h)
    have HRP := Lib.hid (fun W => rprint_any (g, l, x) W (by simp only; omega) hm)
    rw [hm] at HMA
    by_cases hw : 1 ≤ a1 ∧ a1 ≤ 5
    · have HV := Lib.hid (fun W => value_ok (g, l, x) a1 W (by simp only; omega) hm hw)
      have HRS := Lib.hid (fun W => rstrip_any g l x W (by omega) (by have := mayP_near hm; simp only at this; omega))
      have HRR := Lib.hid (fun W => rround_any (stripD (g, l, x)) a1 W (okd_strip (by simp only; omega) hm))
      obtain ⟨hw1, hw5⟩ := hw
      have t1 : decide (a1 < 1) = false := decide_eq_false (by omega)
      have t2 : decide (5 < a1) = false := decide_eq_false (by omega)
      obtain ⟨R, hR⟩ : ∃ R, roundP (stripD (g, l, x)) a1 = R := ⟨_, rfl⟩
      rw [hR] at HV HRR
      clear hm s0 hR hw1 hw5
      generalize printP (g, l, x) = P at *
      generalize stripD (g, l, x) = d at *
      unfold decV sv at *
      cases R with
      | none =>
        unfold roundV roundR at *
        simp only at HV HRR
        go_enter Tryz.func3, Tryz.ntmps3
        go_wp2_with fail
        refine (HP.out _ HT0.out).mono ?_
        rintro e w1 ⟨rfl, hb⟩
        have HB := Lib.hid (keepb HB0.out hb)
        have HK := Lib.hid (HK0.out.below hb HK0.out.lt)
        obtain ⟨c0, c1, c2, f0, f1, f2⟩ := HK.out.three
        clear hb
        go_wp2_with fail
        refine (HV.out _).mono ?_
        rintro e w2 ⟨rfl, hb⟩
        have HB := Lib.hid (keepb HB.out hb)
        have HK := Lib.hid (HK.out.below hb HK.out.lt)
        clear hb c0 c1 c2 f0 f1 f2
        obtain ⟨c0, c1, c2, f0, f1, f2⟩ := HK.out.three
        go_wp2_with fail
        refine (HTW.out _).mono ?_
        rintro e w3 ⟨rfl, hb⟩
        have HB := Lib.hid (keepb HB.out hb)
        have HK := Lib.hid (HK.out.below hb HK.out.lt)
        clear hb c0 c1 c2 f0 f1 f2
        go_wp2_with fail
        refine (HMA.out _).mono ?_
        rintro e w4 ⟨rfl, hb⟩
        have HB := Lib.hid (keepb HB.out hb)
        have HK := Lib.hid (HK.out.below hb HK.out.lt)
        obtain ⟨c0, c1, c2, f0, f1, f2⟩ := HK.out.three
        clear hb
        go_wp2_with fail
        refine (HTW.out _).mono ?_
        rintro e w5 ⟨rfl, hb⟩
        have HB := Lib.hid (keepb HB.out hb)
        have HK := Lib.hid (HK.out.below hb HK.out.lt)
        clear hb c0 c1 c2 f0 f1 f2
        go_wp2_with fail
        refine (HRP.out _).mono ?_
        rintro e w6 ⟨rfl, hb⟩
        have HB := Lib.hid (keepb HB.out hb)
        have HK := Lib.hid (HK.out.below hb HK.out.lt)
        obtain ⟨c0, c1, c2, f0, f1, f2⟩ := HK.out.three
        clear hb
        go_wp2_with fail
        refine (HTW.out _).mono ?_
        rintro e w7 ⟨rfl, hb⟩
        have HB := Lib.hid (keepb HB.out hb)
        clear hb c0 c1 c2 f0 f1 f2
        go_wp2_with fail
        refine (HRS.out _).mono ?_
        rintro e w8 ⟨rfl, hb⟩
        have HB := Lib.hid (keepb HB.out hb)
        clear hb
        go_wp2_with fail
        refine (HRR.out _).mono ?_
        rintro e w9 ⟨rfl, hb⟩
        have HB := Lib.hid (keepb HB.out hb)
        clear hb
        go_wp2_with fail
        refine (number_yes 41 _).mono ?_
        rintro e w10 ⟨rfl, rfl⟩
        go_wp2_with fail
        refine (wakes_yes _).mono ?_
        rintro e w11 ⟨rfl, hb⟩
        have HB := Lib.hid (keepb HB.out hb)
        clear hb
        go_wp2_with fail
        go_ret
        exact ⟨rfl, HB.out⟩
      | some y =>
        unfold roundV roundR at *
        simp only at HV HRR
        have tc : ((y : Int) == (y : Int)) = true := by simp
        have tc' : (y == y) = true := by simp
        go_enter Tryz.func3, Tryz.ntmps3
        go_wp2_with fail
        refine (HP.out _ HT0.out).mono ?_
        rintro e w1 ⟨rfl, hb⟩
        have HB := Lib.hid (keepb HB0.out hb)
        have HK := Lib.hid (HK0.out.below hb HK0.out.lt)
        obtain ⟨c0, c1, c2, f0, f1, f2⟩ := HK.out.three
        clear hb
        go_wp2_with fail
        refine (HV.out _).mono ?_
        rintro e w2 ⟨rfl, hb⟩
        have HB := Lib.hid (keepb HB.out hb)
        have HK := Lib.hid (HK.out.below hb HK.out.lt)
        clear hb c0 c1 c2 f0 f1 f2
        obtain ⟨c0, c1, c2, f0, f1, f2⟩ := HK.out.three
        go_wp2_with fail
        refine (HTW.out _).mono ?_
        rintro e w3 ⟨rfl, hb⟩
        have HB := Lib.hid (keepb HB.out hb)
        have HK := Lib.hid (HK.out.below hb HK.out.lt)
        clear hb c0 c1 c2 f0 f1 f2
        go_wp2_with fail
        refine (HMA.out _).mono ?_
        rintro e w4 ⟨rfl, hb⟩
        have HB := Lib.hid (keepb HB.out hb)
        have HK := Lib.hid (HK.out.below hb HK.out.lt)
        obtain ⟨c0, c1, c2, f0, f1, f2⟩ := HK.out.three
        clear hb
        go_wp2_with fail
        refine (HTW.out _).mono ?_
        rintro e w5 ⟨rfl, hb⟩
        have HB := Lib.hid (keepb HB.out hb)
        have HK := Lib.hid (HK.out.below hb HK.out.lt)
        clear hb c0 c1 c2 f0 f1 f2
        go_wp2_with fail
        refine (HRP.out _).mono ?_
        rintro e w6 ⟨rfl, hb⟩
        have HB := Lib.hid (keepb HB.out hb)
        have HK := Lib.hid (HK.out.below hb HK.out.lt)
        obtain ⟨c0, c1, c2, f0, f1, f2⟩ := HK.out.three
        clear hb
        go_wp2_with fail
        refine (HTW.out _).mono ?_
        rintro e w7 ⟨rfl, hb⟩
        have HB := Lib.hid (keepb HB.out hb)
        clear hb c0 c1 c2 f0 f1 f2
        go_wp2_with fail
        refine (HRS.out _).mono ?_
        rintro e w8 ⟨rfl, hb⟩
        have HB := Lib.hid (keepb HB.out hb)
        clear hb
        go_wp2_with fail
        refine (HRR.out _).mono ?_
        rintro e w9 ⟨rfl, hb⟩
        have HB := Lib.hid (keepb HB.out hb)
        clear hb
        go_wp2_with fail
        refine (wakes_yes _).mono ?_
        rintro e w11 ⟨rfl, hb⟩
        have HB := Lib.hid (keepb HB.out hb)
        clear hb
        go_wp2_with fail
        go_ret
        exact ⟨rfl, HB.out⟩
    · have HV := Lib.hid (fun W => value_bad (g, l, x) a1 W (by simp only; omega) (.inr (decide_eq_false hw)))
      have hor : (decide (a1 < 1) = true) ∨ (decide (a1 < 1) = false ∧ decide (5 < a1) = true) := by
        by_cases h : a1 < 1
        · exact .inl (decide_eq_true h)
        · exact .inr ⟨decide_eq_false h, decide_eq_true (by omega)⟩
      clear hm s0 hw
      generalize printP (g, l, x) = P at *
      unfold decV sv at *
      rcases hor with t1 | ⟨t1, t2⟩
      all_goals
        go_enter Tryz.func3, Tryz.ntmps3
        go_wp2_with fail
        refine (HP.out _ HT0.out).mono ?_
        rintro e w1 ⟨rfl, hb⟩
        have HB := Lib.hid (keepb HB0.out hb)
        have HK := Lib.hid (HK0.out.below hb HK0.out.lt)
        obtain ⟨c0, c1, c2, f0, f1, f2⟩ := HK.out.three
        clear hb
        go_wp2_with fail
        refine (HV.out _).mono ?_
        rintro e w2 ⟨rfl, hb⟩
        have HB := Lib.hid (keepb HB.out hb)
        have HK := Lib.hid (HK.out.below hb HK.out.lt)
        clear hb c0 c1 c2 f0 f1 f2
        obtain ⟨c0, c1, c2, f0, f1, f2⟩ := HK.out.three
        go_wp2_with fail
        refine (HTW.out _).mono ?_
        rintro e w3 ⟨rfl, hb⟩
        have HB := Lib.hid (keepb HB.out hb)
        have HK := Lib.hid (HK.out.below hb HK.out.lt)
        clear hb c0 c1 c2 f0 f1 f2
        go_wp2_with fail
        refine (HMA.out _).mono ?_
        rintro e w4 ⟨rfl, hb⟩
        have HB := Lib.hid (keepb HB.out hb)
        have HK := Lib.hid (HK.out.below hb HK.out.lt)
        obtain ⟨c0, c1, c2, f0, f1, f2⟩ := HK.out.three
        clear hb
        go_wp2_with fail
        refine (HTW.out _).mono ?_
        rintro e w5 ⟨rfl, hb⟩
        have HB := Lib.hid (keepb HB.out hb)
        clear hb c0 c1 c2 f0 f1 f2
        go_wp2_with fail
        refine (HRP.out _).mono ?_
        rintro e w6 ⟨rfl, hb⟩
        have HB := Lib.hid (keepb HB.out hb)
        clear hb
        go_wp2_with fail
        refine (number_yes 2 _).mono ?_
        rintro e w10 ⟨rfl, rfl⟩
        go_wp2_with fail
        refine (wakes_yes _).mono ?_
        rintro e w11 ⟨rfl, hb⟩
        have HB := Lib.hid (keepb HB.out hb)
        clear hb
        go_wp2_with fail
        go_ret
        exact ⟨rfl, HB.out⟩
end Go.Proofs.YtjggmdlecdbeeaaGreatDoor.decValues
namespace Go.Proofs.YtjggmdlecdbeeaaGreatDoor.decValues
open Go.RowKit
set_option linter.unusedVariables false
theorem walkB (g : Bool) (a : ByteArray) (x a1 : Int) (w : World) (w0 : a.size ≤ maxLen) (s0 : a.size ≤ 140737488351232) (wx : (Lit.int .i64 x).wf = true) (w1 : (Lit.int .i64 a1).wf = true) (ht : Tab w) :
    Calls Tryz.prog 3 #[.agg #[.bool g, .string a, .int .i64 x], .int .i64 a1] w fun e w' => e = .returned (.bool true) ∧ Below w.heap.size w w' := by
  obtain ⟨l, rfl⟩ := ba_list a
  rw [sv_len] at s0
  exact walk g l x a1 w s0 ht
end Go.Proofs.YtjggmdlecdbeeaaGreatDoor.decValues
