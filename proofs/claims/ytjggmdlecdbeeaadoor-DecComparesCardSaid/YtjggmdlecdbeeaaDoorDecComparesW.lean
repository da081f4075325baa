/- The walk of DecCompares. -/
import Derived.Test.YtjggmdlecdbeeaaDoorRefD
import Derived.Test.YtjggmdlecdbeeaaDoorRefE
namespace Go.Proofs.YtjggmdlecdbeeaaDoor.decCompares
open Go.RowKit
set_option linter.unusedSimpArgs false
set_option linter.unusedVariables false

theorem rw_some {s : List UInt8} {q : Nat} (h : wrongP s = some q) : rwrongV s = (q : Int) := by unfold rwrongV; rw [h]
theorem rw_none {s : List UInt8} (h : wrongP s = none) : rwrongV s = -1 := by unfold rwrongV; rw [h]

set_option maxRecDepth 100000 in
set_option maxHeartbeats 4000000 in
theorem walk (a0 a1 : ByteArray) (w : World) (w0 : a0.size ≤ maxLen) (s0 : a0.size ≤ 140737488351232) (w1 : a1.size ≤ maxLen) (s1 : a1.size ≤ 140737488351232) :
    Calls Tryd.prog 4 #[.string a0, .string a1] w fun e w' => e = .returned (.bool true) ∧ Below w.heap.size w w' := by
  obtain ⟨a, rfl⟩ := ba_list a0
  obtain ⟨b, rfl⟩ := ba_list a1
  rw [sv_len] at s0 s1
  clear w0 w1
  have HC := Lib.hid (fun W => compare_any a b W (by omega) (by omega))
  have HWA := Lib.hid (fun W => rwrong_any a W (by omega))
  have HWB := Lib.hid (fun W => rwrong_any b W (by omega))
  cases qa : wrongP a with
  | some q =>
    have hcv : compV a b = .tuple #[.int .i64 0, spotV 40 (q : Nat)] := by unfold compV; rw [qa]
    rw [hcv] at HC
    rw [rw_some qa] at HWA
    have t1 : decide ((q : Int) < 0) = false := decide_eq_false (by omega)
    have t2 : decide ((0 : Int) ≤ (q : Int)) = true := decide_eq_true (by omega)
    clear qa hcv s0 s1 HWB
    unfold sv at *
    go_enter Tryd.func4, Tryd.ntmps4
    go_wp2_with fail
    refine (HC.out _).mono ?_
    rintro e w1 ⟨rfl, hb⟩
    have HB := Lib.hid hb
    clear hb
    go_wp2_with fail
    refine (HWA.out _).mono ?_
    rintro e w2 ⟨rfl, rfl⟩
    go_wp2_with fail
    refine (spot_yes 40 (q : Int) _).mono ?_
    rintro e w3 ⟨rfl, hb⟩
    have HB := Lib.hid (keepb HB.out hb)
    clear hb
    go_wp2_with fail
    refine (wakes_yes _).mono ?_
    rintro e w4 ⟨rfl, hb⟩
    have HB := Lib.hid (keepb HB.out hb)
    clear hb
    go_wp2_with fail
    go_ret
    exact ⟨rfl, HB.out⟩
  | none =>
    rw [rw_none qa] at HWA
    cases qb : wrongP b with
    | some q =>
      have hcv : compV a b = .tuple #[.int .i64 0, spotV 40 (q : Nat)] := by unfold compV; rw [qa, qb]
      rw [hcv] at HC
      rw [rw_some qb] at HWB
      have t1 : decide ((q : Int) < 0) = false := decide_eq_false (by omega)
      have t2 : decide ((0 : Int) ≤ (q : Int)) = true := decide_eq_true (by omega)
      clear qa qb hcv s0 s1
      unfold sv at *
      go_enter Tryd.func4, Tryd.ntmps4
      go_wp2_with fail
      refine (HC.out _).mono ?_
      rintro e w1 ⟨rfl, hb⟩
      have HB := Lib.hid hb
      clear hb
      go_wp2_with fail
      refine (HWA.out _).mono ?_
      rintro e w2 ⟨rfl, rfl⟩
      go_wp2_with fail
      refine (HWB.out _).mono ?_
      rintro e w2 ⟨rfl, rfl⟩
      go_wp2_with fail
      refine (spot_yes 40 (q : Int) _).mono ?_
      rintro e w3 ⟨rfl, hb⟩
      have HB := Lib.hid (keepb HB.out hb)
      clear hb
      go_wp2_with fail
      refine (wakes_yes _).mono ?_
      rintro e w4 ⟨rfl, hb⟩
      have HB := Lib.hid (keepb HB.out hb)
      clear hb
      go_wp2_with fail
      go_ret
      exact ⟨rfl, HB.out⟩
    | none =>
      rw [rw_none qb] at HWB
      have HBA := Lib.hid (fun W => rbare_any a W (by omega) qa)
      have HBB := Lib.hid (fun W => rbare_any b W (by omega) qb)
      have hla := bareP_len a
      have hlb := bareP_len b
      have HRC := Lib.hid (fun h h' W => rcompare_any (bareP a) (bareP b) W (by omega) (by omega) h h')
      have hcv : compV a b = if nearP (bareP a).2.2 && nearP (bareP b).2.2 then .tuple #[.int .i64 (cmpD (bareP a) (bareP b)), .nilIface] else .tuple #[.int .i64 0, enoV 3] := by unfold compV; rw [qa, qb]
      rw [hcv] at HC
      have HNA := Lib.hid (fun W => rnear_any (bareP a).2.2 W)
      have HNB := Lib.hid (fun W => rnear_any (bareP b).2.2 W)
      clear qa qb hcv hla hlb s0 s1
      generalize nearP (bareP a).2.2 = na at *
      generalize nearP (bareP b).2.2 = nb at *
      generalize cmpD (bareP a) (bareP b) = c at *
      generalize bareP a = d at *
      generalize bareP b = f at *
      obtain ⟨g, l, x⟩ := d
      obtain ⟨h, m, y⟩ := f
      unfold decV sv at *
      simp only at HNA HNB HBA HBB HRC
      go_enter Tryd.func4, Tryd.ntmps4
      obtain ⟨cv, ce, hce⟩ : ∃ cv ce, (if (na && nb) = true then (Value.tuple #[.int .i64 c, .nilIface]) else .tuple #[.int .i64 0, enoV 3]) = .tuple #[cv, ce] := by
        split <;> exact ⟨_, _, rfl⟩
      rw [hce] at HC
      have HCE := Lib.hid hce
      clear hce
      go_wp2_with fail
      refine (HC.out _).mono ?_
      rintro e w1 ⟨rfl, hb⟩
      have HB := Lib.hid hb
      clear hb
      go_wp2_with fail
      refine (HWA.out _).mono ?_
      rintro e w2 ⟨rfl, rfl⟩
      go_wp2_with fail
      refine (HWB.out _).mono ?_
      rintro e w2 ⟨rfl, rfl⟩
      go_wp2_with fail
      refine (HBA.out _).mono ?_
      rintro e w3 ⟨rfl, hb⟩
      have HB := Lib.hid (keepb HB.out hb)
      clear hb
      go_wp2_with fail
      refine (HBB.out _).mono ?_
      rintro e w4 ⟨rfl, hb⟩
      have HB := Lib.hid (((keepb HB.out hb).alloc (keepb HB.out hb).size (.cells #[.bool g, .string ⟨l.toArray⟩, .int .i64 x] 36)).alloc (by have := (keepb HB.out hb).size; simp; omega) (.cells #[.bool h, .string ⟨m.toArray⟩, .int .i64 y] 36))
      clear hb
      have hce := HCE.out
      cases na with
      | false =>
        have hce : (Value.tuple #[.int .i64 0, enoV 3]) = .tuple #[cv, ce] := hce
        injection hce with hce
        injection hce with hce
        injection hce with h1 hce
        injection hce with h2 hce
        subst h1 h2
        clear hce HCE
        go_wp2_with fail
        refine (HNA.out _).mono ?_
        rintro e w5 ⟨rfl, rfl⟩
        go_wp2_with fail
        refine (number_yes 3 _).mono ?_
        rintro e w5 ⟨rfl, rfl⟩
        go_wp2_with fail
        refine (wakes_yes _).mono ?_
        rintro e w6 ⟨rfl, hb⟩
        have HB := Lib.hid (keepb HB.out hb)
        clear hb
        go_wp2_with fail
        go_ret
        exact ⟨rfl, HB.out⟩
      | true =>
        cases nb with
        | false =>
          have hce : (Value.tuple #[.int .i64 0, enoV 3]) = .tuple #[cv, ce] := hce
          injection hce with hce
          injection hce with hce
          injection hce with h1 hce
          injection hce with h2 hce
          subst h1 h2
          clear hce HCE
          go_wp2_with fail
          refine (HNA.out _).mono ?_
          rintro e w5 ⟨rfl, rfl⟩
          go_wp2_with fail
          refine (HNB.out _).mono ?_
          rintro e w5 ⟨rfl, rfl⟩
          go_wp2_with fail
          refine (number_yes 3 _).mono ?_
          rintro e w5 ⟨rfl, rfl⟩
          go_wp2_with fail
          refine (wakes_yes _).mono ?_
          rintro e w6 ⟨rfl, hb⟩
          have HB := Lib.hid (keepb HB.out hb)
          clear hb
          go_wp2_with fail
          go_ret
          exact ⟨rfl, HB.out⟩
        | true =>
          have hce : (Value.tuple #[.int .i64 c, .nilIface]) = .tuple #[cv, ce] := hce
          injection hce with hce
          injection hce with hce
          injection hce with h1 hce
          injection hce with h2 hce
          subst h1 h2
          clear hce HCE
          have HR := Lib.hid (fun W => HRC.out rfl rfl W)
          have tc : (c == c) = true := by simp
          go_wp2_with fail
          refine (HNA.out _).mono ?_
          rintro e w5 ⟨rfl, rfl⟩
          go_wp2_with fail
          refine (HNB.out _).mono ?_
          rintro e w5 ⟨rfl, rfl⟩
          go_wp2_with fail
          refine (HR.out _).mono ?_
          rintro e w6 ⟨rfl, hb⟩
          have HB := Lib.hid (keepb HB.out hb)
          clear hb
          go_wp2_with fail
          refine (wakes_yes _).mono ?_
          rintro e w7 ⟨rfl, hb⟩
          have HB := Lib.hid (keepb HB.out hb)
          clear hb
          go_wp2_with fail
          go_ret
          exact ⟨rfl, HB.out⟩
end Go.Proofs.YtjggmdlecdbeeaaDoor.decCompares
