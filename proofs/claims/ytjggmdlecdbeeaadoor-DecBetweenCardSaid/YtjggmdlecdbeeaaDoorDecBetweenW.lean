/- The walk of DecBetween. -/
import Derived.Test.YtjggmdlecdbeeaaDoorDecW
namespace Go.Proofs.YtjggmdlecdbeeaaDoor.decBetween
open Go.RowKit
set_option linter.unusedSimpArgs false
set_option linter.unusedVariables false

def nextP (n : Nat) : Nat := if n < 9223372036854775808 then n + 1 else if n - 1 = 9223372036854775808 then 0 else n - 1
theorem next_any (n : Nat) (w : World) (hn : n < 18446744073709551615) :
    Calls Tryd.prog 33 #[.int .u64 (n : Int)] w fun e w' => e = .returned (.int .u64 (nextP n : Nat)) ∧ w = w' := by
  by_cases h : n < 9223372036854775808
  · have HP := Lib.hid (show nextP n = n + 1 by unfold nextP; rw [if_pos h])
    have hs : (n : Int) / 9223372036854775808 = 0 := by omega
    have hs2 : (n : Int) / 2 ^ 63 = 0 := by omega
    have hw : IntKind.u64.wrap ((n : Int) + 1) = ((n + 1 : Nat) : Int) := by rw [IntWalk.u64_in _ (by omega)]; omega
    generalize hc : n + 1 = c at *
    clear h hn hc
    go_enter Tryd.func33, Tryd.ntmps33
    go_wp2_with fail
    go_ret
    exact ⟨by rw [HP.out] <;> rfl, rfl⟩
  · have hs : (n : Int) / 9223372036854775808 = 1 := by omega
    have hs2 : (n : Int) / 2 ^ 63 = 1 := by omega
    obtain ⟨c, hc⟩ : ∃ c : Nat, n - 1 = c := ⟨_, rfl⟩
    have hw : IntKind.u64.wrap ((n : Int) - 1) = (c : Int) := by rw [IntWalk.u64_in _ (by omega)]; omega
    by_cases h2 : c = 9223372036854775808
    · have HP := Lib.hid (show nextP n = 0 by unfold nextP; rw [if_neg h, hc, if_pos h2])
      have t : ((c : Int) == 9223372036854775808) = true := by simp; omega
      clear h hn hc h2
      go_enter Tryd.func33, Tryd.ntmps33
      go_wp2_with fail
      go_ret
      exact ⟨by rw [HP.out] <;> rfl, rfl⟩
    · have HP := Lib.hid (show nextP n = c by unfold nextP; rw [if_neg h, hc, if_neg h2])
      have t : ((c : Int) == 9223372036854775808) = false := by simp; omega
      clear h hn hc h2
      go_enter Tryd.func33, Tryd.ntmps33
      go_wp2_with fail
      go_ret
      exact ⟨by rw [HP.out] <;> rfl, rfl⟩

/-- What down, up, the nearest, towards nought come to. -/
def Between (d : Dm) (neg : Bool) : Prop :=
  (∃ v, roundP d 4 = some v ∧ roundP d 5 = some v ∧ roundP d 1 = some v ∧ roundP d 3 = some v ∧ againP d v = 0 ∧ v < 18446744073709551616 ∧ finB v = true) ∨
  (∃ D U : Nat, ∃ b z, roundP d 4 = some D ∧ roundP d 5 = some U ∧ roundP d 1 = some b ∧ roundP d 3 = some z ∧ D ≠ U ∧ againP d D = 1 ∧ againP d U = -1 ∧ nextP D = U ∧ (b = D ∨ b = U) ∧ z = (if neg then U else D) ∧ D < 18446744073709551615 ∧ finB D = true ∧ U < 18446744073709551616 ∧ finB U = true) ∨
  (∃ v z, roundP d 4 = some v ∧ roundP d 5 = none ∧ roundP d 3 = some z) ∨ (∃ v z, roundP d 4 = none ∧ roundP d 5 = some v ∧ roundP d 3 = some z)
theorem endP_le {g : Bool} {b : Nat} (h : b ≤ most) : endP g b = some (if g && decide (0 < b) then b + 9223372036854775808 else b) := by unfold endP; rw [if_neg (by omega)]
theorem pos_pow (A n : Nat) (h : 0 < A) : 0 < A * 2 ^ n := Nat.mul_pos h (Nat.pow_pos (by decide))
theorem up_exact (g : Bool) (f : Nat) (h : Int) (way : Int) : upP g (f, h, true) way = false := by unfold upP; simp
theorem between_law (d : Dm) (neg : Bool) (hb : Bare d) (hneg : d.2.1 ≠ [] → d.1 = neg) : Between d neg := by
  have hm := floorP_most d
  have hR : ∀ way, roundP d way = endP d.1 (if upP d.1 (floorP d) way then (floorP d).1 + 1 else (floorP d).1) := fun _ => rfl
  by_cases hx : (floorP d).2.2 = true
  · left
    obtain ⟨f, h, x, hf⟩ : ∃ f h x, floorP d = (f, h, x) := ⟨_, _, _, rfl⟩
    rw [hf] at hx hm hR
    simp only at hx hm
    subst hx
    have hE : ∀ way, roundP d way = some (if d.1 && decide (0 < f) then f + 9223372036854775808 else f) := fun way => by
      rw [hR way, up_exact]
      simp only [Bool.false_eq_true, if_false]
      exact endP_le hm
    refine ⟨_, hE 4, hE 5, hE 1, hE 3, ?_⟩
    have hsv := endP_sv (endP_le (g := d.1) hm)
    have hmod : (if d.1 && decide (0 < f) then f + 9223372036854775808 else f) % 9223372036854775808 = f := by
      unfold most at hm
      split <;> omega
    refine ⟨?_, hsv.2.2.1, decide_eq_true hsv.2.1⟩
    have hsg := sv_sign hb (hE 1)
    unfold againP
    by_cases hd : d.2.1 = []
    · have := hb.2.1 hd
      subst this
      have hf0 : f = 0 := by
        have e : floorP (false, [], 0) = (0, 0, true) := by unfold floorP; rw [if_pos rfl]
        rw [e] at hf
        injection hf with hf
        exact hf.symm
      subst hf0
      decide
    · have hsd : signP d = if d.1 then -1 else 1 := by unfold signP; rw [if_neg hd]
      have h0 : signP d ≠ 0 := by rw [hsd]; split <;> decide
      -- exact: the float is not nought
      have hfp : 0 < f := by
        rcases Nat.eq_zero_or_pos f with h0 | h0
        · exfalso
          have hc := floorP_cut (hb.lead hd)
          rw [hf, h0] at hc
          have hc2 : decide (Fl (cutB (numD (shortD d)) (denD (shortD d))) * denD (shortD d) = numD (shortD d) * 2 ^ 1074) = true := by
            have := congrArg (fun c => c.2.2) hc
            exact this.symm
          have hc1 : cutB (numD (shortD d)) (denD (shortD d)) = 0 := (congrArg (fun c => c.1) hc).symm
          rw [hc1, Fl_zero, Nat.zero_mul] at hc2
          have hp := mag_pos (shortD_lead (hb.lead hd))
          have := of_decide_eq_true hc2
          exact Nat.ne_of_lt (pos_pow _ _ hp) this
        · exact h0
      have hFp : 0 < Fl f := by have := Fl_lt.2 hfp; rw [Fl_zero] at this; exact this
      have hfs : fsign (if d.1 && decide (0 < f) then f + 9223372036854775808 else f) = signP d := by
        unfold fsign
        rw [hsv.1, hsd]
        cases d.1
        · rw [if_neg (by simp), if_neg (by simp; omega)]; rfl
        · rw [if_pos (by simp; omega)]; rfl
      rw [hfs, if_neg (by omega), if_neg (by omega), if_neg h0, hmod, hf]
      unfold againC
      simp only
      rw [if_neg (by simp), if_neg (by omega)]
  · right
    have hd : d.2.1 ≠ [] := by
      intro hd
      apply hx
      unfold floorP
      rw [if_pos hd]
    have hg := hneg hd
    obtain ⟨f, h, x, hf⟩ : ∃ f h x, floorP d = (f, h, x) := ⟨_, _, _, rfl⟩
    rw [hf] at hx hm hR
    simp only at hx hm
    have hx : x = false := by simpa using hx
    subst hx
    have hsd : signP d = if d.1 then -1 else 1 := by unfold signP; rw [if_neg hd]
    rw [hg] at hR hsd
    have hb1 : ∃ u : Bool, roundP d 1 = endP neg (if u then f + 1 else f) := ⟨_, hR 1⟩
    have hz : roundP d 3 = endP neg f := by
      rw [hR 3]
      have : upP neg (f, h, false) 3 = false := by unfold upP; simp
      rw [this]; rfl
    have hd4 : roundP d 4 = endP neg (if neg then f + 1 else f) := by
      rw [hR 4]
      have : upP neg (f, h, false) 4 = neg := by unfold upP; simp
      rw [this]
    have hd5 : roundP d 5 = endP neg (if neg then f else f + 1) := by
      rw [hR 5]
      have : upP neg (f, h, false) 5 = !neg := by unfold upP; simp
      rw [this]
      cases neg <;> rfl
    rw [endP_le hm] at hz
    by_cases hov : most < f + 1
    · right
      have hno : endP neg (f + 1) = none := by unfold endP; rw [if_pos hov]
      cases neg with
      | false =>
        left
        rw [show (if false = true then f + 1 else f) = f from rfl, endP_le hm] at hd4
        rw [show (if false = true then f else f + 1) = f + 1 from rfl, hno] at hd5
        exact ⟨_, _, hd4, hd5, hz⟩
      | true =>
        right
        rw [show (if true = true then f + 1 else f) = f + 1 from rfl, hno] at hd4
        rw [show (if true = true then f else f + 1) = f from rfl, endP_le hm] at hd5
        exact ⟨_, _, hd4, hd5, hz⟩
    · left
      have hm1 : f + 1 ≤ most := by omega
      have hF1 : 0 < Fl (f + 1) := by have := Fl_lt.2 (show 0 < f + 1 by omega); rw [Fl_zero] at this; exact this
      have hm' : f + 1 ≤ 9218868437227405311 := hm1
      obtain ⟨u, hu⟩ := hb1
      cases neg with
      | false =>
        rw [show (if false = true then f + 1 else f) = f from rfl, endP_le hm] at hd4
        rw [show (if false = true then f else f + 1) = f + 1 from rfl, endP_le hm1] at hd5
        simp only [Bool.false_and, Bool.false_eq_true, if_false] at hd4 hd5 hz
        have hbb : roundP d 1 = some (if u then f + 1 else f) := by
          rw [hu, endP_le (by cases u <;> simp <;> omega)]; simp
        refine ⟨f, f + 1, _, f, hd4, hd5, hbb, hz, by omega, ?_, ?_, by unfold nextP; rw [if_pos (by omega)], ?_, rfl, by omega, decide_eq_true (by omega), by omega, decide_eq_true (by omega)⟩
        · unfold againP
          have hs1 : signP d = 1 := hsd
          have hsvf : svI f = (Fl f : Int) := by unfold svI; rw [if_pos (by omega)]
          by_cases hf0 : (Fl f : Int) = 0
          · have hfs : fsign f = 0 := by unfold fsign; rw [hsvf, if_neg (by omega), if_pos hf0]
            rw [hs1, hfs]; rfl
          · have hfs : fsign f = 1 := by unfold fsign; rw [hsvf, if_neg (by omega), if_neg hf0]
            rw [hs1, hfs, hf, if_neg (by decide), if_neg (by decide), if_neg (by decide), show f % 9223372036854775808 = f by omega]
            unfold againC
            rw [if_pos ⟨by simp only; omega, fun k => by simp at k⟩]
        · unfold againP
          have hs1 : signP d = 1 := hsd
          have hsvf : svI (f + 1) = (Fl (f + 1) : Int) := by unfold svI; rw [if_pos (by omega)]
          have hfs : fsign (f + 1) = 1 := by unfold fsign; rw [hsvf, if_neg (by omega), if_neg (by omega)]
          rw [hs1, hfs, hf, if_neg (by decide), if_neg (by decide), if_neg (by decide), show (f + 1) % 9223372036854775808 = f + 1 by omega]
          unfold againC
          rw [if_neg (fun k => by have := k.1; simp only at this; omega), if_pos (by simp only; omega)]
        · cases u
          · left; rfl
          · right; rfl
      | true =>
        rw [show (if true = true then f + 1 else f) = f + 1 from rfl, endP_le hm1] at hd4
        rw [show (if true = true then f else f + 1) = f from rfl, endP_le hm] at hd5
        have hg1 : (true && decide (0 < f + 1)) = true := by simp
        rw [if_pos hg1] at hd4
        have hs1 : signP d = -1 := hsd
        have hsvd : svI (f + 1 + 9223372036854775808) = -(Fl (f + 1) : Int) := by unfold svI; rw [if_neg (by omega), show f + 1 + 9223372036854775808 - 9223372036854775808 = f + 1 by omega]
        have hU : ∃ U, (if (true && decide (0 < f)) = true then f + 9223372036854775808 else f) = U ∧ U < 18446744073709551616 ∧ U % 9223372036854775808 = f ∧ nextP (f + 1 + 9223372036854775808) = U ∧ f + 1 + 9223372036854775808 ≠ U ∧ againP d U = -1 := by
          refine ⟨_, rfl, ?_⟩
          rcases Nat.eq_zero_or_pos f with h0 | hp
          · subst h0
            refine ⟨by decide, by decide, by decide, by decide, ?_⟩
            unfold againP
            rw [hs1]; rfl
          · have : (true && decide (0 < f)) = true := by simpa using hp
            rw [if_pos this]
            refine ⟨by omega, by omega, ?_, by omega, ?_⟩
            · unfold nextP; rw [if_neg (by omega), if_neg (by omega)]; omega
            · unfold againP
              have hFp : 0 < Fl f := by have := Fl_lt.2 hp; rw [Fl_zero] at this; exact this
              have hsvu : svI (f + 9223372036854775808) = -(Fl f : Int) := by unfold svI; rw [if_neg (by omega), show f + 9223372036854775808 - 9223372036854775808 = f by omega]
              have hfs : fsign (f + 9223372036854775808) = -1 := by unfold fsign; rw [hsvu, if_pos (by omega)]
              rw [hs1, hfs, hf, if_neg (by decide), if_neg (by decide), if_neg (by decide), show (f + 9223372036854775808) % 9223372036854775808 = f by omega]
              unfold againC
              rw [if_pos ⟨by simp only; omega, fun k => by simp at k⟩]
        obtain ⟨U, hUe, hU1, hU2, hU3, hU4, hU5⟩ := hU
        rw [hUe] at hd5 hz
        have hbb : ∃ b, roundP d 1 = some b ∧ (b = f + 1 + 9223372036854775808 ∨ b = U) := by
          cases u with
          | true =>
            refine ⟨_, hu.trans ?_, .inl rfl⟩
            rw [show (if true = true then f + 1 else f) = f + 1 from rfl, endP_le hm1, if_pos hg1]
          | false =>
            refine ⟨_, hu.trans ?_, .inr rfl⟩
            rw [show (if false = true then f + 1 else f) = f from rfl, endP_le hm, hUe]
        obtain ⟨b, hb1, hb2⟩ := hbb
        refine ⟨f + 1 + 9223372036854775808, U, b, U, hd4, hd5, hb1, hz, hU4, ?_, hU5, hU3, hb2, rfl, by omega, decide_eq_true (by omega), hU1, decide_eq_true (by omega)⟩
        unfold againP
        have hfs : fsign (f + 1 + 9223372036854775808) = -1 := by unfold fsign; rw [hsvd, if_pos (by omega)]
        rw [hs1, hfs, hf, if_neg (by decide), if_neg (by decide), if_neg (by decide), show (f + 1 + 9223372036854775808) % 9223372036854775808 = f + 1 by omega]
        unfold againC
        rw [if_neg (fun k => by have := k.1; simp only at this; omega), if_pos (by simp only; omega)]
        rfl

set_option maxRecDepth 100000 in
theorem against_lit (a : List UInt8) (n : Nat) (w : World) (ha : a.length ≤ 140737488351300) (hn : n < 18446744073709551616) (hf : finB n = true) (qa : wrongP a = none) :
    Calls Tryd.prog 32 #[sv a, .int .u64 (n : Int)] w fun e w' => e = .returned (.int .i64 (againP (bareP a) n)) ∧ Below w.heap.size w w' := by
  have HA := Lib.hid (fun W => against_ok a n W ha hn hf qa)
  generalize againP (bareP a) n = r at *
  clear ha hn hf qa
  unfold sv at *
  go_enter Tryd.func32, Tryd.ntmps32
  go_wp2_with fail
  refine (HA.out _).mono ?_
  rintro e w1 ⟨rfl, hb⟩
  go_wp2_with fail
  go_ret
  exact ⟨rfl, hb⟩
theorem neg_pref (a : List UInt8) (h : (bareP a).2.1 ≠ []) : (bareP a).1 = Lib.hasPrefix a [45] := by
  have h1 : (bareP a).1 = negP a := by
    unfold bareP stripD at *
    simp only at *
    split at h
    · exact absurd rfl h
    · rename_i hh
      rw [if_neg hh]
  rw [h1]
  unfold negP
  cases a with
  | nil => rfl
  | cons c r =>
    show (some c == some 45) = ((45 : UInt8) == c && ([] : List UInt8).isPrefixOf r)
    simp only [List.isPrefixOf, Bool.and_true]
    rw [Bool.eq_iff_iff, beq_iff_eq, beq_iff_eq]
    constructor
    · intro h; injection h with h; exact h.symm
    · intro h; rw [h]

set_option maxRecDepth 100000 in
set_option maxHeartbeats 8000000 in
theorem walk (a0 : ByteArray) (w : World) (w0 : a0.size ≤ maxLen) (s0 : a0.size ≤ 140737488351232) :
    Calls Tryd.prog 10 #[.string a0] w fun e w' => e = .returned (.bool true) ∧ Below w.heap.size w w' := by
  obtain ⟨s, rfl⟩ := ba_list a0
  rw [sv_len] at s0
  clear w0
  have HLS := Lib.hid (fun W => literal_any s W (by omega))
  have la := litOf_len s0 (by decide)
  have qa := litOf_ok s
  generalize litOf s = a at *
  have hlaw := between_law (bareP a) (Lib.hasPrefix a [45]) (bareP_bare a) (neg_pref a)
  have HD := Lib.hid (fun W => round_ok a 4 W (by omega) (by decide) qa)
  have HU := Lib.hid (fun W => round_ok a 5 W (by omega) (by decide) qa)
  have HB1 := Lib.hid (fun W => bits_ok a W (by omega) qa)
  have HZ := Lib.hid (fun W => round_ok a 3 W (by omega) (by decide) qa)
  have HP := Lib.hid (fun W => Tryd.strings_HasPrefix ⟨a.toArray⟩ ⟨#[45]⟩ W)
  simp only [List.toList_toArray] at HP
  have hpe : Lib.hasPrefix a #[45].toList = Lib.hasPrefix a [45] := rfl
  rw [hpe] at HP
  have HG := Lib.hid (fun n W hn hf => against_lit a n W (by omega) hn hf qa)
  generalize Lib.hasPrefix a [45] = neg at *
  unfold Between at hlaw
  generalize bareP a = d at *
  have HLAW := Lib.hid hlaw
  clear hlaw hpe la qa s0
  unfold sv at *
  go_enter Tryd.func10, Tryd.ntmps10
  go_wp2_with fail
  refine (HLS.out _).mono ?_
  rintro e w1 ⟨rfl, hb⟩
  have HB := Lib.hid hb
  clear hb
  rcases HLAW.out with ⟨v, e4, e5, e1, e3, hg, hv, hf⟩ | ⟨D, U, b, z, e4, e5, e1, e3, hne, hgD, hgU, hnx, hbo, hz, hD, hfD, hU, hfU⟩ | ⟨v, z, e4, e5, e3⟩ | ⟨v, z, e4, e5, e3⟩
  · rw [e4, roundV_some] at HD
    rw [e5, roundV_some] at HU
    rw [e1, roundV_some] at HB1
    rw [e3, roundV_some] at HZ
    have HGV := Lib.hid (fun W => HG.out v W hv hf)
    rw [hg] at HGV
    have t1 : ((v : Int) == (v : Int)) = true := by simp
    have t2 : ((v : Int) != (v : Int)) = false := by simp
    clear e4 e5 e1 e3 hg hv hf HG HLAW
    go_wp2_with (first
      | (go_at_call_of 11 (Value.int .i64 4); with_reducible refine (HD.out _).mono ?_; rintro e wn ⟨rfl, hb⟩; have HB := Lib.hid (keepb HB.out hb); clear hb)
      | (go_at_call_of 11 (Value.int .i64 5); with_reducible refine (HU.out _).mono ?_; rintro e wn ⟨rfl, hb⟩; have HB := Lib.hid (keepb HB.out hb); clear hb)
      | (go_at_call_of 11 (Value.int .i64 3); with_reducible refine (HZ.out _).mono ?_; rintro e wn ⟨rfl, hb⟩; have HB := Lib.hid (keepb HB.out hb); clear hb)
      | (go_at_call 26; with_reducible refine (HB1.out _).mono ?_; rintro e wn ⟨rfl, hb⟩; have HB := Lib.hid (keepb HB.out hb); clear hb)
      | (go_at_call 13; refine (wakes_yes _).mono ?_; rintro e wn ⟨rfl, hb⟩; have HB := Lib.hid (keepb HB.out hb); clear hb)
      | (go_at_call 32; with_reducible refine (HGV.out _).mono ?_; rintro e wn ⟨rfl, hb⟩; have HB := Lib.hid (keepb HB.out hb); clear hb)
      | (go_at_call 34; with_reducible refine (HP.out _).mono ?_; rintro e wn ⟨rfl, rfl⟩))
    all_goals
      go_ret
      exact ⟨rfl, HB.out⟩
  · rw [e4, roundV_some] at HD
    rw [e5, roundV_some] at HU
    rw [e1, roundV_some] at HB1
    rw [e3, roundV_some] at HZ
    have HGD := Lib.hid (fun W => HG.out D W (by omega) hfD)
    have HGU := Lib.hid (fun W => HG.out U W hU hfU)
    have HN := Lib.hid (fun W => next_any D W hD)
    rw [hgD] at HGD
    rw [hgU] at HGU
    rw [hnx] at HN
    have t1 : ((D : Int) == (U : Int)) = false := by simp; omega
    have t2 : ((D : Int) != (U : Int)) = true := by simp; omega
    have t1' : ((U : Int) == (D : Int)) = false := by simp; omega
    have t3 : ((U : Int) != (U : Int)) = false := by simp
    have t4 : ((D : Int) == (D : Int)) = true := by simp
    have t5 : ((U : Int) == (U : Int)) = true := by simp
    clear e4 e5 e1 e3 hgD hgU hfD hfU hD hU hnx HG HLAW hne
    subst hz
    rcases hbo with rfl | rfl
    all_goals
      cases neg
      all_goals
        simp only [Bool.false_eq_true, if_false, if_true] at HZ
        go_wp2_with (first
          | (go_at_call_of 11 (Value.int .i64 4); with_reducible refine (HD.out _).mono ?_; rintro e wn ⟨rfl, hb⟩; have HB := Lib.hid (keepb HB.out hb); clear hb)
          | (go_at_call_of 11 (Value.int .i64 5); with_reducible refine (HU.out _).mono ?_; rintro e wn ⟨rfl, hb⟩; have HB := Lib.hid (keepb HB.out hb); clear hb)
          | (go_at_call_of 11 (Value.int .i64 3); with_reducible refine (HZ.out _).mono ?_; rintro e wn ⟨rfl, hb⟩; have HB := Lib.hid (keepb HB.out hb); clear hb)
          | (go_at_call 26; with_reducible refine (HB1.out _).mono ?_; rintro e wn ⟨rfl, hb⟩; have HB := Lib.hid (keepb HB.out hb); clear hb)
          | (go_at_call 13; refine (wakes_yes _).mono ?_; rintro e wn ⟨rfl, hb⟩; have HB := Lib.hid (keepb HB.out hb); clear hb)
          | (go_at_call 32; with_reducible refine (HGD.out _).mono ?_; rintro e wn ⟨rfl, hb⟩; have HB := Lib.hid (keepb HB.out hb); clear hb)
          | (go_at_call 32; with_reducible refine (HGU.out _).mono ?_; rintro e wn ⟨rfl, hb⟩; have HB := Lib.hid (keepb HB.out hb); clear hb)
          | (go_at_call 33; with_reducible refine (HN.out _).mono ?_; rintro e wn ⟨rfl, rfl⟩)
          | (go_at_call 34; with_reducible refine (HP.out _).mono ?_; rintro e wn ⟨rfl, rfl⟩))
        all_goals
          go_ret
          exact ⟨rfl, HB.out⟩
  · rw [e4, roundV_some] at HD
    rw [e5, roundV_none] at HU
    rw [e3, roundV_some] at HZ
    obtain ⟨bv, be, hbe⟩ : ∃ a er, roundV (roundP d 1) = .tuple #[a, er] := by cases roundP d 1 <;> exact ⟨_, _, rfl⟩
    rw [hbe] at HB1
    clear e4 e5 e3 hbe HG HLAW
    go_wp2_with (first
      | (go_at_call_of 11 (Value.int .i64 4); with_reducible refine (HD.out _).mono ?_; rintro e wn ⟨rfl, hb⟩; have HB := Lib.hid (keepb HB.out hb); clear hb)
      | (go_at_call_of 11 (Value.int .i64 5); with_reducible refine (HU.out _).mono ?_; rintro e wn ⟨rfl, hb⟩; have HB := Lib.hid (keepb HB.out hb); clear hb)
      | (go_at_call_of 11 (Value.int .i64 3); with_reducible refine (HZ.out _).mono ?_; rintro e wn ⟨rfl, hb⟩; have HB := Lib.hid (keepb HB.out hb); clear hb)
      | (go_at_call 26; with_reducible refine (HB1.out _).mono ?_; rintro e wn ⟨rfl, hb⟩; have HB := Lib.hid (keepb HB.out hb); clear hb)
      | (go_at_call 13; refine (wakes_yes _).mono ?_; rintro e wn ⟨rfl, hb⟩; have HB := Lib.hid (keepb HB.out hb); clear hb)
      | (go_at_call 12; refine (number_yes 41 _).mono ?_; rintro e wn ⟨rfl, rfl⟩)
      | (go_at_call 34; with_reducible refine (HP.out _).mono ?_; rintro e wn ⟨rfl, rfl⟩))
    all_goals
      go_ret
      exact ⟨rfl, HB.out⟩
  · rw [e4, roundV_none] at HD
    rw [e5, roundV_some] at HU
    rw [e3, roundV_some] at HZ
    obtain ⟨bv, be, hbe⟩ : ∃ a er, roundV (roundP d 1) = .tuple #[a, er] := by cases roundP d 1 <;> exact ⟨_, _, rfl⟩
    rw [hbe] at HB1
    clear e4 e5 e3 hbe HG HLAW
    go_wp2_with (first
      | (go_at_call_of 11 (Value.int .i64 4); with_reducible refine (HD.out _).mono ?_; rintro e wn ⟨rfl, hb⟩; have HB := Lib.hid (keepb HB.out hb); clear hb)
      | (go_at_call_of 11 (Value.int .i64 5); with_reducible refine (HU.out _).mono ?_; rintro e wn ⟨rfl, hb⟩; have HB := Lib.hid (keepb HB.out hb); clear hb)
      | (go_at_call_of 11 (Value.int .i64 3); with_reducible refine (HZ.out _).mono ?_; rintro e wn ⟨rfl, hb⟩; have HB := Lib.hid (keepb HB.out hb); clear hb)
      | (go_at_call 26; with_reducible refine (HB1.out _).mono ?_; rintro e wn ⟨rfl, hb⟩; have HB := Lib.hid (keepb HB.out hb); clear hb)
      | (go_at_call 13; refine (wakes_yes _).mono ?_; rintro e wn ⟨rfl, hb⟩; have HB := Lib.hid (keepb HB.out hb); clear hb)
      | (go_at_call 12; refine (number_yes 41 _).mono ?_; rintro e wn ⟨rfl, rfl⟩)
      | (go_at_call 34; with_reducible refine (HP.out _).mono ?_; rintro e wn ⟨rfl, rfl⟩))
    all_goals
      go_ret
      exact ⟨rfl, HB.out⟩
end Go.Proofs.YtjggmdlecdbeeaaDoor.decBetween
