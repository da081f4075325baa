/- The contract of the reference's Compare. -/
import Derived.Test.YtmdgopclcdmenaaUtfV
namespace Go.Proofs.Ytmdgopclcdmenaa
open Go.RowKit
set_option linter.unusedSimpArgs false
set_option linter.unusedVariables false

def ucompare (a b : List UInt8) : Int := if right a = true then (if right b = true then cmpL (unitsF a 0) (unitsF b 0) else -1) else (if right b = true then 1 else bcmp a b)
theorem ucompare_tt {a b : List UInt8} (ha : right a = true) (hb : right b = true) : ucompare a b = cmpL (unitsF a 0) (unitsF b 0) := by unfold ucompare; rw [if_pos ha, if_pos hb]
theorem ucompare_tf {a b : List UInt8} (ha : right a = true) (hb : right b = false) : ucompare a b = -1 := by unfold ucompare; rw [if_pos ha, if_neg (by rw [hb]; decide)]
theorem ucompare_ft {a b : List UInt8} (ha : right a = false) (hb : right b = true) : ucompare a b = 1 := by unfold ucompare; rw [if_neg (by rw [ha]; decide), if_pos hb]
theorem ucompare_ff {a b : List UInt8} (ha : right a = false) (hb : right b = false) : ucompare a b = bcmp a b := by unfold ucompare; rw [if_neg (by rw [ha]; decide), if_neg (by rw [hb]; decide)]

theorem rcompare_not (a b : List UInt8) (w : World) (ha : a.length ≤ 4294967296) (hb : b.length ≤ 4294967296) (h : right a = false ∨ right b = false) :
    Calls Try.prog 31 #[.string ⟨a.toArray⟩, .string ⟨b.toArray⟩] w fun e w' => e = .returned (.int .i64 (ucompare a b)) ∧ Below w.heap.size w w' := by
  have RA := Lib.hid (fun W => rright_any a W (by omega))
  have RB' := Lib.hid (fun W => rright_any b W (by omega))
  cases hra : right a with
  | true =>
    have hrb : right b = false := by rcases h with h | h; rw [h] at hra; cases hra; exact h
    rw [ucompare_tf hra hrb]
    rw [hra] at RA
    rw [hrb] at RB'
    clear h hra hrb
    go_enter Try.func31, Try.ntmps31
    go_wp2_with (first
      | (go_at_call 25; (with_reducible refine (RA.out _).mono ?_); rintro e w' ⟨rfl, rfl⟩)
      | (go_at_call 25; (with_reducible refine (RB'.out _).mono ?_); rintro e w' ⟨rfl, rfl⟩))
    go_ret
    exact ⟨rfl, Below.refl _ _⟩
  | false =>
    cases hrb : right b with
    | true =>
      rw [ucompare_ft hra hrb]
      rw [hra] at RA
      rw [hrb] at RB'
      clear h hra hrb
      go_enter Try.func31, Try.ntmps31
      go_wp2_with (first
        | (go_at_call 25; (with_reducible refine (RA.out _).mono ?_); rintro e w' ⟨rfl, rfl⟩)
        | (go_at_call 25; (with_reducible refine (RB'.out _).mono ?_); rintro e w' ⟨rfl, rfl⟩))
      go_ret
      exact ⟨rfl, Below.refl _ _⟩
    | false =>
      rw [ucompare_ff hra hrb]
      rw [hra] at RA
      rw [hrb] at RB'
      have HC := Lib.hid (fun W => rbytes_any a b W (by omega) (by omega))
      clear h hra hrb
      generalize bcmp a b = v at *
      go_enter Try.func31, Try.ntmps31
      go_wp2_with (first
        | (go_at_call 25; (with_reducible refine (RA.out _).mono ?_); rintro e w' ⟨rfl, rfl⟩)
        | (go_at_call 25; (with_reducible refine (RB'.out _).mono ?_); rintro e w' ⟨rfl, rfl⟩)
        | (go_at_call 55; (with_reducible refine (HC.out _).mono ?_); rintro e w1 ⟨rfl, hb1⟩))
      go_ret
      exact ⟨rfl, hb1⟩

set_option maxRecDepth 100000 in
set_option maxHeartbeats 4000000 in
theorem rcompare_yes (a b : List UInt8) (w : World) (ha : a.length ≤ 4294967296) (hb : b.length ≤ 4294967296) (hra : right a = true) (hrb : right b = true) :
    Calls Try.prog 31 #[.string ⟨a.toArray⟩, .string ⟨b.toArray⟩] w fun e w' => e = .returned (.int .i64 (ucompare a b)) ∧ Below w.heap.size w w' := by
  have RA := Lib.hid (fun W => rright_any a W (by omega))
  have RB' := Lib.hid (fun W => rright_any b W (by omega))
  have UA := Lib.hid (fun W => runits_any a W ha)
  have UB := Lib.hid (fun W => runits_any b W hb)
  rw [hra] at RA
  rw [hrb] at RB'
  rw [ucompare_tt hra hrb]
  have hlA : (unitsF a 0).length ≤ 8589934592 := by
    have h1 := runesF_len a _ 0 rfl
    have h2 := flat_len (runesF a 0)
    unfold unitsF; omega
  have hlB : (unitsF b 0).length ≤ 8589934592 := by
    have h1 := runesF_len b _ 0 rfl
    have h2 := flat_len (runesF b 0)
    unfold unitsF; omega
  clear hra hrb
  unfold UnitsPost at UA UB
  generalize unitsF a 0 = U at *
  generalize unitsF b 0 = V at *
  go_enter Try.func31, Try.ntmps31
  go_wp2_with (first
    | (go_at_call 25; (with_reducible refine (RA.out _).mono ?_); rintro e w' ⟨rfl, rfl⟩)
    | (go_at_call 25; (with_reducible refine (RB'.out _).mono ?_); rintro e w' ⟨rfl, rfl⟩))
  refine (UA.out _).mono ?_
  rintro e w1 ⟨A1, c1, rfl, hr1, hc1, hb1⟩
  have R1 := Lib.hid hr1
  have B1 := Lib.hid hb1
  clear hr1 hb1
  go_wp2_with fail
  refine (UB.out _).mono ?_
  rintro e w2 ⟨A2, c2, rfl, hr2, hc2, hb2⟩
  have R2 := Lib.hid hr2
  have R1b := Lib.hid (R1.out.below hb2)
  have B2 := Lib.hid (keepb B1.out hb2)
  have hs12 := hb2.size
  clear hr2 hb2
  go_wp2_with fail
  go_loopw [9] (fun k wr => ∃ j : Nat, j ≤ U.length ∧ j ≤ V.length ∧ k = .int .i64 j ∧ U.take j = V.take j ∧ Below w2.heap.size w2 wr) (fun k _ => U.length - (intOf k).toNat)
  case atStart => exact ⟨0, by omega, by omega, rfl, rfl, Below.refl _ _⟩
  case round =>
    obtain ⟨j, hj1, hj2, rfl, ht, hbel⟩ := hrel
    have HAT := Lib.hid (cmpL_at _ _ j ht hj1 hj2)
    have HBE := Lib.hid hbel
    have HBF := Lib.hid (keepb B2.out hbel)
    have r1 := (R1b.out.mono hs12).below hbel
    have r2 := R2.out.below hbel
    clear hbel
    by_cases h1 : j < U.length
    · by_cases h2 : j < V.length
      · obtain ⟨g1, o1, rfl, _, k1⟩ := r1.2 (by omega)
        obtain ⟨g2, o2, rfl, _, k2⟩ := r2.2 (by omega)
        have p1 := k1 j (by simpa using h1)
        have p2 := k2 j (by simpa using h2)
        rw [List.getElem_map] at p1 p2
        have HM := Lib.hid (fun he => take_more ht h1 h2 he)
        clear ht k1 k2 r1 r2
        generalize hx : U[j] = x at *
        generalize hy : V[j] = y at *
        have GA := Lib.hid hx
        have GB := Lib.hid hy
        clear hx hy
        have q1 : (0 : Int) ≤ j := by omega
        have q2 : (j : Int) < U.length := by omega
        have q3 : (j : Int) < V.length := by omega
        rcases Nat.lt_trichotomy x y with h | h | h
        · have d1 : decide (x < y) = true := by simp; omega
          have d2 : (x : Int) < y := by omega
          have HV : Hid (cmpL U V = -1) := HAT.out.1 h1 h2 (by rw [GA.out, GB.out]; exact h)
          clear h
          go_wp2
          go_quiet (fail)
          go_wp2
          go_ret
          exact ⟨by rw [HV.out]; rfl, below_drewN HBF.out nq⟩
        · have d1 : decide (x < y) = false := by simp; omega
          have d2 : decide (y < x) = false := by simp; omega
          have HMM := Lib.hid (HM.out (by omega))
          clear h
          go_wp2
          go_quiet (fail)
          go_wp2
          go_quiet (fail)
          go_wp2
          go_roundw
          case rel => exact ⟨j + 1, by omega, by omega, by go_num, HMM.out, (by first | exact below_drewN HBE.out _ | exact below_drewN (below_drewN HBE.out _) _)⟩
          case measure => simp [intOf]; omega
        · have d1 : decide (x < y) = false := by simp; omega
          have d2 : decide (y < x) = true := by simp; omega
          have d3 : (y : Int) < x := by omega
          have HV : Hid (cmpL U V = 1) := HAT.out.2.1 h1 h2 (by rw [GA.out, GB.out]; exact h)
          clear h
          go_wp2
          go_quiet (fail)
          go_wp2
          go_quiet (fail)
          go_wp2
          go_ret
          exact ⟨by rw [HV.out]; rfl, (by first | exact below_drewN HBF.out _ | exact below_drewN (below_drewN HBF.out _) _)⟩
      · obtain rfl : j = V.length := by omega
        have HV : Hid (cmpL U V = 1) := HAT.out.2.2.2.1 rfl h1
        have hge : ¬ (U.length : Int) < V.length := by omega
        have hlt : (V.length : Int) < U.length := by omega
        clear ht r1 r2
        go_wp2
        go_ret
        exact ⟨by rw [HV.out]; rfl, HBF.out⟩
    · obtain rfl : j = U.length := by omega
      by_cases h2 : U.length < V.length
      · have HV : Hid (cmpL U V = -1) := HAT.out.2.2.1 rfl h2
        clear ht r1 r2
        go_wp2
        go_ret
        exact ⟨by rw [HV.out]; rfl, HBF.out⟩
      · have HV : Hid (cmpL U V = 0) := HAT.out.2.2.2.2 rfl (by omega)
        have he : U.length = V.length := by omega
        clear ht r1 r2
        go_wp2
        go_ret
        exact ⟨by rw [HV.out]; rfl, HBF.out⟩
theorem rcompare_any (a b : List UInt8) (w : World) (ha : a.length ≤ 4294967296) (hb : b.length ≤ 4294967296) :
    Calls Try.prog 31 #[.string ⟨a.toArray⟩, .string ⟨b.toArray⟩] w fun e w' => e = .returned (.int .i64 (ucompare a b)) ∧ Below w.heap.size w w' := by
  cases hra : right a with
  | false => exact rcompare_not a b w ha hb (.inl hra)
  | true =>
    cases hrb : right b with
    | false => exact rcompare_not a b w ha hb (.inr hrb)
    | true => exact rcompare_yes a b w ha hb hra hrb
end Go.Proofs.Ytmdgopclcdmenaa
