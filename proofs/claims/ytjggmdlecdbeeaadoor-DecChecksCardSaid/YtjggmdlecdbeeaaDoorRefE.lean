/- The reference of decimals: the walk of Bare. -/
import Derived.Test.YtjggmdlecdbeeaaDoorRefA
import Derived.Deep.CutBlock
namespace Go.Proofs.YtjggmdlecdbeeaaDoor
open Go.RowKit
set_option linter.unusedSimpArgs false
set_option linter.unusedVariables false

theorem valid_hasE {r : List UInt8} (h : wrongP r = none) : hasE r = decide (p2 r < r.length) := by
  cases he : hasE r with
  | true => rw [decide_eq_true (hasE_lt he)]
  | false =>
    have h4 : p4 r = p2 r := by unfold p4; rw [he]; rfl
    have := (valid_e h).2
    rw [decide_eq_false (by omega)]
theorem cutL_full (s : List UInt8) (i k : Nat) (h : k ≤ s.length) (hik : i ≤ k) : (cutL s i k).length = k - i := by
  unfold cutL; rw [List.length_take, List.length_drop]; omega
theorem behind_len (r : List UInt8) : ((behindP r).length : Int) = (p2 r : Int) - (p1 r : Int) - (if pt r then 1 else 0) := by
  unfold behindP
  cases h : pt r with
  | true =>
    simp only [if_true]
    have h2 := p2_le (s := r)
    have h3 : p1 r + 1 ≤ p2 r := by unfold p2; rw [h]; exact ov_ge _ _
    rw [cutL_full _ _ _ h2 h3]
    omega
  | false =>
    have : p2 r = p1 r := by unfold p2; rw [h]; rfl
    simp [this]
theorem expP_at {r : List UInt8} (he : hasE r = true) (k : Nat) (h1 : p3 r ≤ k) (h2 : k < p4 r) : bt (expP r) (k - p3 r) = bt r k ∧ k - p3 r < (expP r).length := by
  have hle := p4_le (s := r)
  have hx : expP r = cutL r (p3 r) (p4 r) := by unfold expP; rw [he]; rfl
  have hl := cutL_full r (p3 r) (p4 r) hle (by omega)
  refine ⟨?_, by rw [hx, hl]; omega⟩
  unfold bt
  rw [hx]
  congr 1
  unfold cutL
  rw [List.getD_eq_getElem?_getD, List.getD_eq_getElem?_getD, List.getElem?_take, if_pos (by omega), List.getElem?_drop, show p3 r + (k - p3 r) = k by omega]

set_option maxRecDepth 100000 in
set_option maxHeartbeats 8000000 in
theorem rbare_any (s : List UInt8) (w : World) (hs : s.length ≤ 140737488351300) (hq : wrongP s = none) :
    Calls Tryd.prog 17 #[sv s] w fun e w' => e = .returned (decV (bareP s)) ∧ Below w.heap.size w w' := by
  have hB := bodyL_ok hq
  have hs0 : 0 < s.length := by
    have h1 := dAt_lt hB.d0
    have := hB.le
    omega
  have HNEG := Lib.hid (show negP s = true → (⟨s.toArray⟩ : ByteArray).extract 1 s.length = ⟨(bodyL s).toArray⟩ from fun h => by
    have e := hB.neg h
    rw [ext_cut]
    unfold cutL
    generalize bodyL s = r at *
    rw [e, List.drop_one, List.tail_cons, List.take_of_length_le (by simp)])
  have HPOS := Lib.hid (show negP s = false → (⟨s.toArray⟩ : ByteArray) = ⟨(bodyL s).toArray⟩ from fun h => by rw [← hB.pos h])
  have hrl : (bodyL s).length ≤ 140737488351300 := Nat.le_trans hB.le hs
  have hbare := hB.bare
  have hb0 := bget s 0 hs0
  have ht0 : (((bt s 0 : Nat) : Int) == 45) = negP s := bt_is hs0 45
  have hsI : ((s.length : Nat) : Int) ≤ 140737488351300 := by omega
  have hs0I : (0 : Int) < ((s.length : Nat) : Int) := by omega
  have hs1I : (1 : Int) ≤ ((s.length : Nat) : Int) := by omega
  have hok := hB.ok
  have hp0 := hB.p0
  have hi1 := hB.i1
  rw [hbare]
  clear hbare hB hq hs
  generalize negP s = g at *
  generalize bodyL s = r at *
  have HB0 := Lib.hid (((Below.refl _ w).alloc (Nat.le_refl _) (.cells #[.bool false, .string ⟨#[]⟩, .int .i64 0] 36)).alloc (by simp) (.cells #[.bool false, .string ⟨#[]⟩, .int .i64 0] 36))
  have HK0 := Lib.hid ((Blk.new w 36 #[.bool false, .string ⟨#[]⟩, .int .i64 0]).alloc (.cells #[.bool false, .string ⟨#[]⟩, .int .i64 0] 36))
  have HJ0 := Lib.hid (Blk.new2 w 36 #[.bool false, .string ⟨#[]⟩, .int .i64 0] (.cells #[.bool false, .string ⟨#[]⟩, .int .i64 0] 36))
  have HOK := Lib.hid hok
  have HP0 := Lib.hid hp0
  have HI1 := Lib.hid hi1
  have HRL := Lib.hid hrl
  clear hok hp0 hi1 hrl
  obtain ⟨E, hE⟩ : ∃ E : Int, ((if underP r then -(capE (expP r) : Int) else (capE (expP r) : Int)) - (behindP r).length) = E := ⟨_, rfl⟩
  rw [hE]
  have HEE := Lib.hid hE
  clear hE
  obtain ⟨sd, hsd⟩ : ∃ sd, stripD (g, wholeP r ++ behindP r, E) = sd := ⟨_, rfl⟩
  rw [hsd]
  have HSD := Lib.hid hsd
  clear hsd
  obtain ⟨sd0, sd1, sd2⟩ := sd
  unfold decV sv
  generalize hW0 : ((w.alloc (.cells #[.bool false, .string ⟨#[]⟩, .int .i64 0] 36)).alloc (.cells #[.bool false, .string ⟨#[]⟩, .int .i64 0] 36)) = W0 at *
  go_enter Tryd.func17, Tryd.ntmps17
  go_upto_if 11 with fail
  clear hW0
  go_cut [0] from 12 to 15 (fun s0 wx => s0 = .string ⟨r.toArray⟩ ∧ Blk wx w.heap.size 36 #[.bool false, .string ⟨#[]⟩, .int .i64 0] ∧ Blk wx (w.heap.size + 1) 36 #[.bool g, .string ⟨#[]⟩, .int .i64 0] ∧ Below w.heap.size w wx)
  case first =>
    cases g with
    | true =>
      have hx := HNEG.out rfl
      obtain ⟨c0, c1, c2, f0, f1, f2⟩ := HJ0.out.three
      go_wp2_with fail
      go_meet
      exact ⟨rfl, HK0.out.far (p := ⟨w.heap.size + 1, 0, none⟩) (by simp) _, HJ0.out.set1 0 _, HB0.out.setCell (p := ⟨w.heap.size + 1, 0, none⟩) (by simp) _⟩
    | false =>
      have HX := Lib.hid (HPOS.out rfl)
      go_wp2_with fail
      go_meet
      exact ⟨by rw [HX.out], HK0.out, HJ0.out, HB0.out⟩
  case rest =>
  obtain ⟨rfl, hk, hj, hb⟩ := hcut
  have HK := Lib.hid hk
  have HJ := Lib.hid hj
  have HB := Lib.hid hb
  clear hk hj hb hb0 ht0 hs0I hs1I hsI hs0 HNEG HPOS
  have hrI : ((r.length : Nat) : Int) ≤ 140737488351300 := by have := HRL.out; omega
  have HO := Lib.hid (fun W => rover_any r 0 W HRL.out (Nat.zero_le _))
  rw [HI1.out] at HO
  have e0 : ((0 : Nat) : Int) = 0 := rfl
  rw [e0] at HO
  clear e0
  have HP1 := Lib.hid (p1_le (s := r))
  have hx1 : (⟨r.toArray⟩ : ByteArray).extract 0 (p1 r) = ⟨(wholeP r).toArray⟩ := by rw [ext_cut]; unfold wholeP; rw [HP0.out]
  have hp1I : ((p1 r : Nat) : Int) ≤ ((r.length : Nat) : Int) := by have := HP1.out; omega
  have hp1J : ((p1 r : Nat) : Int) ≤ 140737488351300 := by omega
  go_wp2_with fail
  refine (HO.out _).mono ?_
  rintro e w1 ⟨rfl, rfl⟩
  go_upto_region 7 with fail
  clear hx1
  obtain ⟨qt, hqt⟩ : ∃ qt, pt r = qt := ⟨_, rfl⟩
  have Hqt := Lib.hid hqt
  clear hqt
  go_cut [29] from 20 to 30 (fun s29 wx => s29 = .bool qt ∧ Blk wx w.heap.size 36 #[.bool false, .string ⟨#[]⟩, .int .i64 0] ∧ Blk wx (w.heap.size + 1) 36 #[.bool g, .string ⟨#[]⟩, .int .i64 0] ∧ Below w.heap.size w wx)
  case first =>
    rcases ctest r (p1 r) 46 with ⟨h1, h2⟩ | ⟨h1, h2⟩
    · have u1 : decide (((p1 r : Nat) : Int) < ((r.length : Nat) : Int)) = false := decide_eq_false (by omega)
      have u2 : decide (p1 r < r.length) = false := decide_eq_false (by omega)
      have HV := Lib.hid (show qt = false by rw [← Hqt.out]; exact h2)
      clear h2
      go_wp2_with fail
      go_meet
      exact ⟨by rw [HV.out], HK.out, HJ.out, HB.out⟩
    · have u1 : decide (((p1 r : Nat) : Int) < ((r.length : Nat) : Int)) = true := decide_eq_true (by omega)
      have u2 : decide (p1 r < r.length) = true := decide_eq_true (by omega)
      have hb := bget r (p1 r) h1
      have hI : ((p1 r : Nat) : Int) < ((r.length : Nat) : Int) := by omega
      have HV := Lib.hid (show qt = (r[p1 r]? == some 46) from Hqt.out.symm)
      have h2 : (((bt r (p1 r) : Nat) : Int) == 46) = (r[p1 r]? == some 46) := h2
      generalize (r[p1 r]? == some 46) = b at *
      go_wp2_with fail
      go_meet
      exact ⟨by rw [HV.out], HK.out, HJ.out, HB.out⟩
  case rest =>
  obtain ⟨rfl, hk, hj, hb⟩ := hcut
  have HK := Lib.hid hk
  have HJ := Lib.hid hj
  have HB := Lib.hid hb
  clear hk hj hb
  have HP2 := Lib.hid (p2_le (s := r))
  have HBL := Lib.hid (behind_len r)
  go_upto_if 29 with fail
  go_cut [4, 5, 6] from 30 to 48 (fun s4 s5 s6 wx => s4 = .int .i64 ((p2 r : Nat) : Int) ∧ s5 = .string ⟨(wholeP r ++ behindP r).toArray⟩ ∧ Blk wx w.heap.size 36 #[.bool false, .string ⟨#[]⟩, .int .i64 0] ∧ Blk wx (w.heap.size + 1) 36 #[.bool g, .string ⟨#[]⟩, .int .i64 (-((behindP r).length : Int))] ∧ Below w.heap.size w wx)
  case first =>
    have hqt := Hqt.out
    cases qt with
    | true =>
      have h1 : p1 r + 1 ≤ r.length := pt_lt hqt
      have HO2 := Lib.hid (fun W => rover_any r (p1 r + 1) W HRL.out h1)
      have hp2e : ov r (p1 r + 1) = p2 r := by unfold p2; rw [hqt]; rfl
      have hk12 : p1 r + 1 ≤ p2 r := by rw [← hp2e]; exact ov_ge _ _
      rw [hp2e] at HO2
      have e1 : (((p1 r + 1 : Nat)) : Int) = ((p1 r : Nat) : Int) + 1 := by omega
      rw [e1] at HO2
      have hp2I : ((p2 r : Nat) : Int) ≤ ((r.length : Nat) : Int) := by have := HP2.out; omega
      have hp2J : ((p2 r : Nat) : Int) ≤ 140737488351300 := by omega
      have hpp : ((p1 r : Nat) : Int) + 1 ≤ ((p2 r : Nat) : Int) := by omega
      have hx2 : (⟨r.toArray⟩ : ByteArray).extract (p1 r + 1) (p2 r) = ⟨(behindP r).toArray⟩ := by rw [ext_cut]; unfold behindP; rw [hqt]; rfl
      have hnn : (((p1 r : Nat) : Int) + 1).toNat = p1 r + 1 := by omega
      have hcat := sv_cat (wholeP r) (behindP r)
      have hbl : ((behindP r).length : Int) = ((p2 r : Nat) : Int) - ((p1 r : Nat) : Int) - 1 := by have := HBL.out; rw [hqt] at this; simpa using this
      have kq1 : IntKind.i64.wrap (((p2 r : Nat) : Int) - ((p1 r : Nat) : Int)) = ((behindP r).length : Int) + 1 := by rw [IntWalk.i64_in _ (by omega)]; omega
      have kq2 : ((p2 r : Nat) : Int) - ((p1 r : Nat) : Int) = ((behindP r).length : Int) + 1 := by omega
      have hlen : (wholeP r).length + (behindP r).length ≤ 140737488351300 := by have := (parts_len r).1; have := HRL.out; omega
      have hlI : ((wholeP r).length : Int) + ((behindP r).length : Int) ≤ 140737488351300 := by omega
      have hbI : ((behindP r).length : Int) ≤ 140737488351300 := by omega
      obtain ⟨c0, c1, c2, f0, f1, f2⟩ := HJ.out.three
      clear e1 hbl hqt hp2e hk12 h1
      generalize behindP r = B at *
      generalize wholeP r = A at *
      go_wp2_with fail
      refine (HO2.out _).mono ?_
      rintro e w1 ⟨rfl, rfl⟩
      go_wp2_with fail
      go_meet
      exact ⟨rfl, rfl, HK.out.far (p := ⟨w.heap.size + 1, 2, none⟩) (by simp) _, HJ.out.set1 2 _, HB.out.setCell (p := ⟨w.heap.size + 1, 2, none⟩) (by simp) _⟩
    | false =>
      have HV := Lib.hid (show p2 r = p1 r by unfold p2; rw [hqt]; rfl)
      have HV2 := Lib.hid (show behindP r = [] by unfold behindP; rw [hqt]; rfl)
      clear hqt
      go_wp2_with fail
      go_meet
      exact ⟨by rw [HV.out], by rw [HV2.out, List.append_nil], HK.out, by rw [HV2.out]; exact HJ.out, HB.out⟩
  case rest =>
  obtain ⟨rfl, rfl, hk, hj, hb⟩ := hcut
  have HK := Lib.hid hk
  have HJ := Lib.hid hj
  have HB := Lib.hid hb
  clear hk hj hb hp1I hp1J
  have hp2I : ((p2 r : Nat) : Int) ≤ ((r.length : Nat) : Int) := by have := HP2.out; omega
  have hp2J : ((p2 r : Nat) : Int) ≤ 140737488351300 := by omega
  have HBL2 := Lib.hid (show (behindP r).length ≤ 140737488351300 by have := (parts_len r).1; have := HRL.out; omega)
  have HWL := Lib.hid (show (wholeP r ++ behindP r).length ≤ 140737488351300 by rw [List.length_append]; have := (parts_len r).1; have := HRL.out; omega)
  obtain ⟨qe, hqe⟩ : ∃ qe, hasE r = qe := ⟨_, rfl⟩
  have hve := valid_hasE HOK.out
  rw [hqe] at hve
  have u2 : decide (p2 r < r.length) = qe := hve.symm
  have u1 : decide (((p2 r : Nat) : Int) < ((r.length : Nat) : Int)) = qe := by rw [hve, Bool.eq_iff_iff, decide_eq_true_eq, decide_eq_true_eq]; omega
  have Hqe := Lib.hid hqe
  clear hqe hve
  go_upto_if 51 with fail
  clear u1 u2
  go_cut [52] from 52 to 90 (fun s52 wx => Blk wx w.heap.size 36 #[.bool false, .string ⟨#[]⟩, .int .i64 0] ∧ Blk wx (w.heap.size + 1) 36 #[.bool g, .string ⟨#[]⟩, .int .i64 E] ∧ Below w.heap.size w wx)
  case first =>
    cases qe with
    | false =>
      have HV1 := Lib.hid (show underP r = false by unfold underP; rw [Hqe.out]; rfl)
      have HV2 := Lib.hid (show expP r = [] by unfold expP; rw [Hqe.out]; rfl)
      go_wp2_with fail
      go_meet
      refine ⟨HK.out, ?_, HB.out⟩
      have hEE := HEE.out
      rw [HV1.out, HV2.out] at hEE
      have : ((if false = true then -(capE [] : Int) else (capE [] : Int)) - ((behindP r).length : Int)) = -((behindP r).length : Int) := by
        have hc : capE [] = 0 := rfl
        rw [hc]; simp
      rw [this] at hEE
      rw [← hEE]
      exact HJ.out
    | true =>
      have he := Hqe.out
      have hd3 := (valid_e HOK.out).1 he
      have h3l := dAt_lt hd3
      have h23 : p2 r + 1 ≤ p3 r := by unfold p3; split <;> omega
      have h1 : p2 r + 1 < r.length := by omega
      have h4e : p4 r = ov r (p3 r) := by unfold p4; rw [he]; rfl
      have hHE := Lib.hid he
      have hb := bget r (p2 r + 1) h1
      obtain ⟨bm, hbm⟩ : ∃ bm, (r[p2 r + 1]? == some 45) = bm := ⟨_, rfl⟩
      obtain ⟨bp, hbp⟩ : ∃ bp, (r[p2 r + 1]? == some 43) = bp := ⟨_, rfl⟩
      have ht1 : (((bt r (p2 r + 1) : Nat) : Int) == 45) = bm := (bt_is h1 45).trans hbm
      have ht2 : (((bt r (p2 r + 1) : Nat) : Int) == 43) = bp := (bt_is h1 43).trans hbp
      have HU := Lib.hid (show underP r = bm by unfold underP; rw [he, hbm]; rfl)
      obtain ⟨bs, hbs⟩ : ∃ bs, (bp || bm) = bs := ⟨_, rfl⟩
      have HS := Lib.hid (show p3 r = if bs = true then p2 r + 2 else p2 r + 1 by unfold p3 sgn; rw [hbm, hbp, hbs])
      have HBS := Lib.hid hbs
      clear hbs
      have HL3 := Lib.hid h3l
      have H4E := Lib.hid h4e
      have hnn : (((p2 r : Nat) : Int) + 1).toNat = p2 r + 1 := by omega
      have h1I : ((p2 r : Nat) : Int) + 1 < ((r.length : Nat) : Int) := by omega
      clear he hd3 h3l h23 h4e hbm hbp
      go_upto_region 15 with fail
      go_cut [64] from 58 to 65 (fun s64 wx => s64 = .bool bs ∧ Blk wx w.heap.size 36 #[.bool false, .string ⟨#[]⟩, .int .i64 0] ∧ Blk wx (w.heap.size + 1) 36 #[.bool g, .string ⟨#[]⟩, .int .i64 (-((behindP r).length : Int))] ∧ Below w.heap.size w wx)
      case first =>
        cases bm with
        | true =>
          go_wp2_with fail
          go_meet
          exact ⟨by rw [← HBS.out]; simp, HK.out, HJ.out, HB.out⟩
        | false =>
          go_wp2_with fail
          go_meet
          exact ⟨by rw [← HBS.out]; simp, HK.out, HJ.out, HB.out⟩
      case rest =>
      obtain ⟨rfl, hk, hj, hb2⟩ := hcut
      have HK := Lib.hid hk
      have HJ := Lib.hid hj
      have HB := Lib.hid hb2
      clear hk hj hb2 hb ht1 ht2 hnn
      go_upto_if 64 with fail
      go_cut [4] from 65 to 67 (fun s4 wx => s4 = .int .i64 ((p3 r : Nat) : Int) ∧ Blk wx w.heap.size 36 #[.bool false, .string ⟨#[]⟩, .int .i64 0] ∧ Blk wx (w.heap.size + 1) 36 #[.bool g, .string ⟨#[]⟩, .int .i64 (-((behindP r).length : Int))] ∧ Below w.heap.size w wx)
      case first =>
        have hs := HS.out
        cases bs with
        | true =>
          have HV := Lib.hid (show p3 r = p2 r + 2 from hs)
          clear hs
          go_wp2_with fail
          go_meet
          exact ⟨by rw [HV.out]; go_num, HK.out, HJ.out, HB.out⟩
        | false =>
          have HV := Lib.hid (show p3 r = p2 r + 1 from hs)
          clear hs
          go_wp2_with fail
          go_meet
          exact ⟨by rw [HV.out]; go_num, HK.out, HJ.out, HB.out⟩
      case rest =>
      obtain ⟨rfl, hk, hj, hb2⟩ := hcut
      have HK := Lib.hid hk
      have HJ := Lib.hid hj
      have HB := Lib.hid hb2
      clear hk hj hb2 h1I h1 hp2I hp2J
      have HP4 := Lib.hid (p4_le (s := r))
      have HC := Lib.hid (capE_take_lt (expP r) · (expP_digits r))
      go_wp2_with fail
      go_loop [4, 8] (fun x y => ∃ k : Nat, x = .int .i64 (k : Int) ∧ p3 r ≤ k ∧ k ≤ p4 r ∧ y = .int .i64 ((capE ((expP r).take (k - p3 r)) : Nat) : Int)) (fun x _ => r.length - (intOf x).toNat)
      case atStart => exact ⟨p3 r, rfl, Nat.le_refl _, by rw [H4E.out]; exact ov_ge _ _, by simp [capE]⟩
      case round =>
        obtain ⟨k, rfl, hk1, hk2, rfl⟩ := hrel
        have hcl := HC.out (k - p3 r)
        have hkI : ((k : Nat) : Int) ≤ 140737488351300 := by have := HP4.out; omega
        have HD := Lib.hid (fun W => rdigit_any r k W HRL.out (by have := HP4.out; have := HRL.out; omega))
        rcases Nat.lt_or_ge k (p4 r) with hlt | hge
        · have hda : dAt r k = true := dAt_mid hk1 (by rw [← H4E.out]; exact hlt)
          rw [hda] at HD
          obtain ⟨hbe, hel⟩ := expP_at hHE.out k hk1 hlt
          have hst := capE_step (expP r) (k - p3 r) hel
          rw [hbe, show k - p3 r + 1 = k + 1 - p3 r by omega] at hst
          have hbb := bt_isD hel (expP_digits r)
          rw [hbe] at hbb
          have hkl : k < r.length := by have := HP4.out; omega
          have hbk := bget r k hkl
          have hki : ((k : Nat) : Int) < ((r.length : Nat) : Int) := by omega
          have HREL := Lib.hid (show p3 r ≤ k + 1 ∧ k + 1 ≤ p4 r from ⟨by omega, by omega⟩)
          have HKL := Lib.hid hkl
          obtain ⟨c', hc'⟩ : ∃ c', capE ((expP r).take (k + 1 - p3 r)) = c' := ⟨_, rfl⟩
          rw [hc'] at hst
          have HCC := Lib.hid hc'
          clear hc'
          generalize capE ((expP r).take (k - p3 r)) = c at *
          generalize bt r k = y at *
          clear hk1 hk2 hlt hda hbe hel
          by_cases hf : c < farE
          · rw [if_pos hf] at hst
            have HST := Lib.hid hst
            have u2 : decide (((c : Nat) : Int) < 35184372088832) = true := decide_eq_true (by unfold farE at hf; omega)
            have k1 : IntKind.i64.wrap (10 * (c : Int)) = 10 * (c : Int) := IntWalk.i64_in _ (by unfold farE at hf; omega)
            have k2 : IntKind.u8.wrap ((y : Int) - 48) = ((y - 48 : Nat) : Int) := by
              have : (y : Int) - 48 = ((y - 48 : Nat) : Int) := by omega
              rw [this]; exact IntWalk.u8_in _ (by omega)
            have k4 : IntKind.i64.wrap ((y - 48 : Nat) : Int) = ((y - 48 : Nat) : Int) := IntWalk.i64_in _ (by omega)
            have k3 : IntKind.i64.wrap (10 * (c : Int) + ((y - 48 : Nat) : Int)) = (c' : Int) := by rw [IntWalk.i64_in _ (by unfold farE at hf; omega)]; omega
            generalize y - 48 = z at *
            clear hf hbb hcl hst
            go_wp2_with fail
            refine (HD.out _).mono ?_
            rintro e w1 ⟨rfl, rfl⟩
            go_wp2_with fail
            go_round
            case rel => exact ⟨k + 1, by go_num, HREL.out.1, HREL.out.2, by rw [HCC.out]⟩
            case measure => have := HKL.out; simp [intOf]; omega
          · rw [if_neg hf] at hst
            have HST := Lib.hid hst
            have u2 : decide (((c : Nat) : Int) < 35184372088832) = false := decide_eq_false (by unfold farE at hf; omega)
            clear hf hbb hcl hst
            go_wp2_with fail
            refine (HD.out _).mono ?_
            rintro e w1 ⟨rfl, rfl⟩
            go_wp2_with fail
            go_round
            case rel => exact ⟨k + 1, by go_num, HREL.out.1, HREL.out.2, by rw [HCC.out, HST.out]⟩
            case measure => have := HKL.out; simp [intOf]; omega
        · have hke : k = p4 r := by omega
          have hda : dAt r k = false := by rw [hke, H4E.out]; exact ov_end _ _
          rw [hda] at HD
          have hcx : capE ((expP r).take (k - p3 r)) = capE (expP r) := by
            rw [List.take_of_length_le]
            rw [hke]
            have hx : expP r = cutL r (p3 r) (p4 r) := by unfold expP; rw [hHE.out]; rfl
            rw [hx, cutL_full r (p3 r) (p4 r) HP4.out (by rw [H4E.out]; exact ov_ge _ _)]
            exact Nat.le_refl _
          rw [hcx] at hcl ⊢
          have hee := HEE.out
          rw [HU.out] at hee
          have hblI := HBL2.out
          clear hk1 hk2 hge hke hda hcx
          generalize capE (expP r) = c at *
          obtain ⟨d0, d1, d2, g0, g1, g2⟩ := HJ.out.three
          generalize hn : (behindP r).length = n at *
          cases bm with
          | true =>
            simp only [if_true] at hee
            have k1 : IntKind.i64.wrap (-(c : Int)) = -(c : Int) := IntWalk.i64_in _ (by unfold farE at hcl; omega)
            have k2 : IntKind.i64.wrap (-(n : Int) + -(c : Int)) = E := by rw [IntWalk.i64_in _ (by unfold farE at hcl; omega)]; omega
            have k3 : -(n : Int) + -(c : Int) = E := by omega
            have hcI : (c : Int) ≤ 351843720888320 := by unfold farE at hcl; omega
            have hnI : (n : Int) ≤ 140737488351300 := by omega
            clear hcl hee hblI hn
            go_wp2_with fail
            refine (HD.out _).mono ?_
            rintro e w1 ⟨rfl, rfl⟩
            go_wp2_with fail
            go_meet
            exact ⟨HK.out.far (p := ⟨w.heap.size + 1, 2, none⟩) (by simp) _, HJ.out.set1 2 _, HB.out.setCell (p := ⟨w.heap.size + 1, 2, none⟩) (by simp) _⟩
          | false =>
            simp only [Bool.false_eq_true, if_false] at hee
            have k2 : IntKind.i64.wrap (-(n : Int) + (c : Int)) = E := by rw [IntWalk.i64_in _ (by unfold farE at hcl; omega)]; omega
            have k3 : -(n : Int) + (c : Int) = E := by omega
            have hcI : (c : Int) ≤ 351843720888320 := by unfold farE at hcl; omega
            have hnI : (n : Int) ≤ 140737488351300 := by omega
            clear hcl hee hblI hn
            go_wp2_with fail
            refine (HD.out _).mono ?_
            rintro e w1 ⟨rfl, rfl⟩
            go_wp2_with fail
            go_meet
            exact ⟨HK.out.far (p := ⟨w.heap.size + 1, 2, none⟩) (by simp) _, HJ.out.set1 2 _, HB.out.setCell (p := ⟨w.heap.size + 1, 2, none⟩) (by simp) _⟩
  case rest =>
  obtain ⟨hk, hj, hb⟩ := hcut
  have HE := Lib.hid (capE_lt (expP r) (expP_digits r))
  have hEb : -1000000000000000 ≤ E ∧ E ≤ 1000000000000000 := by
    have h1 := HE.out
    have h2 := HBL2.out
    unfold farE at h1
    rw [← HEE.out]
    split <;> omega
  have HST := Lib.hid (fun W => rstrip_any g (wholeP r ++ behindP r) E W HWL.out hEb)
  rw [HSD.out] at HST
  obtain ⟨c0, c1, c2, f0, f1, f2⟩ := hj.three
  have HK := Lib.hid hk
  have HB := Lib.hid hb
  clear hk hj hb hEb
  unfold decV sv at HST
  simp only at HST
  go_wp2_with fail
  refine (HST.out _).mono ?_
  rintro e w9 ⟨rfl, hb9⟩
  have HK9 := Lib.hid (HK.out.below hb9 HK.out.lt)
  have HB9 := Lib.hid (keepb HB.out hb9)
  obtain ⟨a0, a1, a2, b0, b1, b2⟩ := HK9.out.three
  clear hb9
  go_simp
  repeat go_step
  obtain ⟨x0, x1, x2⟩ := HK9.out.put3 (.bool sd0) (.string ⟨sd1.toArray⟩) (.int .i64 sd2)
  exact bodyPost_ret (v := .agg #[.bool sd0, .string ⟨sd1.toArray⟩, .int .i64 sd2]) (by simp [results, Tryd.results17, go_sem, x0, x1, x2]) rfl ⟨rfl, below_put3 HB9.out (Nat.le_refl _) _ _ _⟩
end Go.Proofs.YtjggmdlecdbeeaaDoor
