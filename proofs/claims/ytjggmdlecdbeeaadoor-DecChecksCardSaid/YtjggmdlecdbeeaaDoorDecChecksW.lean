/- The walk of DecChecks. -/
import Derived.Test.YtjggmdlecdbeeaaDoorDecRoundsW
import Derived.Test.YtjggmdlecdbeeaaDoorDecY
namespace Go.Proofs.YtjggmdlecdbeeaaDoor.decChecks
open Go.RowKit
open decRounds (rw_some rw_none okd_bare)
attribute [local go_sem] SGives_value SGives_skip SGives_enter
set_option linter.unusedSimpArgs false
set_option linter.unusedVariables false

set_option maxRecDepth 100000 in
set_option maxHeartbeats 4000000 in
theorem walk (a0 : ByteArray) (w : World) (w0 : a0.size ≤ maxLen) (s0 : a0.size ≤ 140737488351232) :
    Calls Tryd.prog 8 #[.string a0] w fun e w' => e = .returned (.bool true) ∧ Below w.heap.size w w' := by
  obtain ⟨a, rfl⟩ := ba_list a0
  rw [sv_len] at s0
  clear w0
  have HCH := Lib.hid (fun W => check_any a W (by omega))
  have HWA := Lib.hid (fun W => rwrong_any a W (by omega))
  cases qa : wrongP a with
  | some q =>
    have HV := Lib.hid (show checkV a = spotV 40 (q : Nat) by unfold checkV; rw [qa])
    rw [HV.out] at HCH
    rw [rw_some qa] at HWA
    have HPA := Lib.hid (fun W => parts_wrong a q W (by omega) qa)
    have HBI := Lib.hid (fun W => bits_wrong a q W (by omega) qa)
    have HFL := Lib.hid (fun W => flt_any a 0 _ W HBI.out)
    have t3 : decide ((0 : Int) ≤ (q : Int)) = true := decide_eq_true (by omega)
    have cb := call_bits 0
    clear qa s0 HV
    unfold sv decV at *
    go_enter Tryd.func8, Tryd.ntmps8
    go_wp2_with fail
    refine (HCH.out _).mono ?_
    rintro e w1 ⟨rfl, hb⟩
    have HB := Lib.hid hb
    clear hb
    go_wp2_with fail
    refine (HPA.out _).mono ?_
    rintro e w2 ⟨rfl, hb⟩
    have HB := Lib.hid (keepb HB.out hb)
    clear hb
    go_upto_region 3 with fail
    obtain ⟨g4, hg4⟩ : ∃ g, w2.heap.size = g := ⟨_, rfl⟩
    obtain ⟨W3, hW3⟩ : ∃ W, w2.alloc (.cells #[.bool false, .string ⟨#[]⟩, .int .i64 0] 51) = W := ⟨_, rfl⟩
    have HK := Lib.hid (show Blk W3 g4 51 #[.bool false, .string ⟨#[]⟩, .int .i64 0] by rw [← hW3, ← hg4]; exact Blk.new w2 _ _)
    have HB := Lib.hid (show Below w.heap.size w W3 by rw [← hW3]; exact HB.out.alloc HB.out.size _)
    rw [hg4, hW3]
    clear hg4 hW3
    go_wp2_with fail
    refine (HBI.out _).mono ?_
    rintro e w4 ⟨rfl, hb⟩
    have HB := Lib.hid (keepb HB.out hb)
    have HK := Lib.hid (HK.out.below hb HK.out.lt)
    clear hb
    go_wp2_with fail
    refine (HFL.out _).mono ?_
    rintro e w5 ⟨rfl, hb⟩
    have HB := Lib.hid (keepb HB.out hb)
    have HK := Lib.hid (HK.out.below hb HK.out.lt)
    clear hb
    go_wp2_with fail
    refine (HWA.out _).mono ?_
    rintro e w6 ⟨rfl, rfl⟩
    go_wp2_with fail
    refine (spot_yes 40 (q : Int) _).mono ?_
    rintro e w6 ⟨rfl, hb⟩
    have HB := Lib.hid (keepb HB.out hb)
    have HK := Lib.hid (HK.out.below hb HK.out.lt)
    clear hb
    go_wp2_with fail
    refine (spot_yes 40 (q : Int) _).mono ?_
    rintro e w7 ⟨rfl, hb⟩
    have HB := Lib.hid (keepb HB.out hb)
    have HK := Lib.hid (HK.out.below hb HK.out.lt)
    clear hb
    go_wp2_with fail
    refine (spot_yes 40 (q : Int) _).mono ?_
    rintro e w8 ⟨rfl, hb⟩
    have HB := Lib.hid (keepb HB.out hb)
    have HK := Lib.hid (HK.out.below hb HK.out.lt)
    clear hb
    go_wp2_with fail
    refine (spot_yes 40 (q : Int) _).mono ?_
    rintro e w9 ⟨rfl, hb⟩
    have HB := Lib.hid (keepb HB.out hb)
    have HK := Lib.hid (HK.out.below hb HK.out.lt)
    clear hb
    obtain ⟨c0, c1, c2, f0, f1, f2⟩ := HK.out.three
    go_wp2_with fail
    refine (wakes_yes _).mono ?_
    rintro e w10 ⟨rfl, hb⟩
    have HB := Lib.hid (keepb HB.out hb)
    clear hb c0 c1 c2 f0 f1 f2
    go_wp2_with fail
    go_ret
    exact ⟨rfl, HB.out⟩
  | none =>
    have HV := Lib.hid (show checkV a = .nilIface by unfold checkV; rw [qa])
    rw [HV.out] at HCH
    rw [rw_none qa] at HWA
    have HPA := Lib.hid (fun W => parts_ok a W (by omega) qa)
    have HBI := Lib.hid (fun W => bits_ok a W (by omega) qa)
    have HBA := Lib.hid (fun W => rbare_any a W (by omega) qa)
    have HRR := Lib.hid (fun W => rround_any (bareP a) 1 W (okd_bare (by omega)))
    have HNE := Lib.hid (fun W => rnear_any (bareP a).2.2 W)
    have HTW := Lib.hid (fun W => twin_any (bareP a) W)
    obtain ⟨nr, hnr⟩ : ∃ nr, nearP (bareP a).2.2 = nr := ⟨_, rfl⟩
    have HPV := Lib.hid (show partsV (bareP a) = if nr then .tuple #[decV (bareP a), .nilIface] else .tuple #[decV (false, [], 0), enoV 3] by unfold partsV; rw [hnr])
    obtain ⟨R, hR⟩ : ∃ R, roundP (bareP a) 1 = R := ⟨_, rfl⟩
    obtain ⟨n, er, hre⟩ : ∃ (n : Nat) (er : Value), roundV R = .tuple #[.int .u64 (n : Int), er] := by
      cases R with
      | none => exact ⟨0, _, rfl⟩
      | some x => exact ⟨x, _, rfl⟩
    have HRE := Lib.hid hre
    rw [hnr] at HNE
    rw [hR] at HBI HRR
    rw [hre] at HBI
    rw [HPV.out] at HPA
    have HFL := Lib.hid (fun W => flt_any a n _ W HBI.out)
    have cb := call_bits n
    clear qa s0 HV hnr hR hre HPV
    generalize bareP a = d at *
    obtain ⟨g, l, x⟩ := d
    simp only at HNE
    unfold sv decV at *
    have hds := dec_same g ⟨l.toArray⟩ x
    obtain ⟨pg, pl, px, pe, hpv⟩ : ∃ (pg : Bool) (pl : List UInt8) (px : Int) (pe : Value), (if nr = true then Value.tuple #[.agg #[.bool g, .string ⟨l.toArray⟩, .int .i64 x], .nilIface] else .tuple #[.agg #[.bool false, .string ⟨#[]⟩, .int .i64 0], enoV 3]) = .tuple #[.agg #[.bool pg, .string ⟨pl.toArray⟩, .int .i64 px], pe] := by
      cases nr with
      | true => exact ⟨_, _, _, _, rfl⟩
      | false => exact ⟨false, [], 0, _, rfl⟩
    have HPV := Lib.hid hpv
    rw [hpv] at HPA
    clear hpv
    have HDS := Lib.hid hds
    clear hds
    go_enter Tryd.func8, Tryd.ntmps8
    go_wp2_with fail
    refine (HCH.out _).mono ?_
    rintro e w1 ⟨rfl, hb⟩
    have HB := Lib.hid hb
    clear hb
    go_wp2_with fail
    refine (HPA.out _).mono ?_
    rintro e w2 ⟨rfl, hb⟩
    have HB := Lib.hid (keepb HB.out hb)
    clear hb
    go_upto_region 3 with fail
    obtain ⟨g4, hg4⟩ : ∃ g, w2.heap.size = g := ⟨_, rfl⟩
    obtain ⟨W3, hW3⟩ : ∃ W, w2.alloc (.cells #[.bool pg, .string ⟨pl.toArray⟩, .int .i64 px] 51) = W := ⟨_, rfl⟩
    have HK := Lib.hid (show Blk W3 g4 51 #[.bool pg, .string ⟨pl.toArray⟩, .int .i64 px] by rw [← hW3, ← hg4]; exact Blk.new w2 _ _)
    have HB := Lib.hid (show Below w.heap.size w W3 by rw [← hW3]; exact HB.out.alloc HB.out.size _)
    rw [hg4, hW3]
    clear hg4 hW3
    go_wp2_with fail
    refine (HBI.out _).mono ?_
    rintro e w4 ⟨rfl, hb⟩
    have HB := Lib.hid (keepb HB.out hb)
    have HK := Lib.hid (HK.out.below hb HK.out.lt)
    clear hb
    go_wp2_with fail
    refine (HFL.out _).mono ?_
    rintro e w5 ⟨rfl, hb⟩
    have HB := Lib.hid (keepb HB.out hb)
    have HK := Lib.hid (HK.out.below hb HK.out.lt)
    clear hb
    go_wp2_with fail
    refine (HWA.out _).mono ?_
    rintro e w6 ⟨rfl, rfl⟩
    go_wp2_with fail
    refine (HBA.out _).mono ?_
    rintro e w6 ⟨rfl, hb⟩
    have HB := Lib.hid (keepb HB.out hb)
    have HK := Lib.hid (HK.out.below hb HK.out.lt)
    clear hb
    go_upto_region 11 with fail
    obtain ⟨g11, hg11⟩ : ∃ g, w6.heap.size = g := ⟨_, rfl⟩
    obtain ⟨W7, hW7⟩ : ∃ W, w6.alloc (.cells #[.bool g, .string ⟨l.toArray⟩, .int .i64 x] 36) = W := ⟨_, rfl⟩
    have HKR := Lib.hid (show Blk W7 g11 36 #[.bool g, .string ⟨l.toArray⟩, .int .i64 x] by rw [← hW7, ← hg11]; exact Blk.new w6 _ _)
    have HK := Lib.hid (show Blk W7 g4 51 #[.bool pg, .string ⟨pl.toArray⟩, .int .i64 px] by rw [← hW7]; exact HK.out.alloc _)
    have HB := Lib.hid (show Below w.heap.size w W7 by rw [← hW7]; exact HB.out.alloc HB.out.size _)
    rw [hg11, hW7]
    clear hg11 hW7
    obtain ⟨r0, r1, r2, q0, q1, q2⟩ := HKR.out.three
    go_wp2_with fail
    refine (HNE.out _).mono ?_
    rintro e w8 ⟨rfl, rfl⟩
    clear r0 r1 r2 q0 q1 q2
    have hpv := HPV.out
    go_upto_if 76 with fail
    go_cut [77] from 77 to 93 (fun s77 wx => Blk wx g11 36 #[.bool g, .string ⟨l.toArray⟩, .int .i64 x] ∧ Below w.heap.size w wx)
    case first =>
      cases nr with
      | true =>
        have hpv : Value.tuple #[.agg #[.bool g, .string ⟨l.toArray⟩, .int .i64 x], .nilIface] = .tuple #[.agg #[.bool pg, .string ⟨pl.toArray⟩, .int .i64 px], pe] := hpv
        simp only [Value.tuple.injEq, Array.mk.injEq, List.cons.injEq, Value.agg.injEq, Value.bool.injEq, Value.string.injEq, ByteArray.mk.injEq, Value.int.injEq, and_true, true_and] at hpv
        obtain ⟨⟨rfl, hl, rfl⟩, rfl⟩ := hpv
        rw [← hl] at *
        clear hl
        go_upto_region 12 with fail
        obtain ⟨S, SD⟩ : ∃ S : World → Prop, Go.RowKit.Hid (∀ w' : World, S w' ↔ (Blk w' g4 51 #[.bool g, .string ⟨l.toArray⟩, .int .i64 x] ∧ Blk w' g11 36 #[.bool g, .string ⟨l.toArray⟩, .int .i64 x] ∧ Below w.heap.size w w')) := ⟨_, Lib.hid (fun _ => Iff.rfl)⟩
        refine wp_region_sure (S := S) (by kernel_rfl) (by kernel_rfl) ((SD.out _).2 ⟨HK.out.drew, HKR.out.drew, HB.out.drew⟩) ?_
        repeat
          (first
            | (refine SureL.no (by rfl) ?_; simp only [Act.put, List.setIfInBounds_toArray, List.set_cons_zero, List.set_cons_succ])
            | (refine' SureL.yes (by rfl) (fun wS hS => ?_) ?_
               rotate_left
               · obtain ⟨hk1, hk2, hk3⟩ := (SD.out _).1 hS
                 obtain ⟨c0, c1, c2, f0, f1, f2⟩ := hk1.three
                 obtain ⟨r0, r1, r2, q0, q1, q2⟩ := hk2.three
                 have hds := HDS.out
                 go_simp
                 first
                   | exact ⟨rfl, hS⟩
                   | (with_reducible refine (HTW.out _).mono ?_; rintro e w' ⟨rfl, hbn⟩; exact ⟨rfl, (SD.out _).2 ⟨hk1.below hbn hk1.lt, hk2.below hbn hk2.lt, keepb hk3 hbn⟩⟩)
               simp only [Act.put, List.setIfInBounds_toArray, List.set_cons_zero, List.set_cons_succ]))
        refine SureL.nil ?_
        intro wE hE
        obtain ⟨hk1, hk2, hk3⟩ := (SD.out _).1 hE
        have HK2 := Lib.hid hk2
        have HK3 := Lib.hid hk3
        clear hk1 hk2 hk3
        go_wp2_with fail
        go_meet
        exact ⟨HK2.out, HK3.out⟩
      | false =>
        have hpv : Value.tuple #[.agg #[.bool false, .string ⟨([] : List UInt8).toArray⟩, .int .i64 0], enoV 3] = .tuple #[.agg #[.bool pg, .string ⟨pl.toArray⟩, .int .i64 px], pe] := hpv
        simp only [Value.tuple.injEq, Array.mk.injEq, List.cons.injEq, Value.agg.injEq, Value.bool.injEq, Value.string.injEq, ByteArray.mk.injEq, Value.int.injEq, and_true, true_and] at hpv
        obtain ⟨⟨rfl, hl, rfl⟩, rfl⟩ := hpv
        rw [← hl] at *
        clear hl
        go_wp2_with fail
        refine (number_yes 3 _).mono ?_
        rintro e w8 ⟨rfl, rfl⟩
        obtain ⟨c0, c1, c2, f0, f1, f2⟩ := HK.out.three
        go_wp2_with fail
        go_meet
        exact ⟨HKR.out, HB.out⟩
    case rest =>
    clear hpv HPV HK HKR HB
    obtain ⟨hk, hb⟩ := hcut
    rename World => wx
    have HB := Lib.hid hb
    have HK := Lib.hid hk
    obtain ⟨r0, r1, r2, q0, q1, q2⟩ := HK.out.three
    clear hk hb
    have hre := HRE.out
    cases R with
    | none =>
      have hre : Value.tuple #[.int .u64 0, enoV 41] = .tuple #[.int .u64 (n : Int), er] := hre
      simp only [Value.tuple.injEq, Array.mk.injEq, List.cons.injEq, Value.int.injEq, and_true, true_and] at hre
      obtain ⟨hn, rfl⟩ := hre
      obtain rfl : n = 0 := by omega
      unfold roundR at HRR
      simp only at HRR
      clear hn HRE
      go_wp2_with fail
      refine (HRR.out _).mono ?_
      rintro e w9 ⟨rfl, hb⟩
      have HB := Lib.hid (keepb HB.out hb)
      clear hb r0 r1 r2 q0 q1 q2
      go_wp2_with fail
      refine (number_yes 41 _).mono ?_
      rintro e w10 ⟨rfl, rfl⟩
      go_wp2_with fail
      refine (number_yes 41 _).mono ?_
      rintro e w10 ⟨rfl, rfl⟩
      go_wp2_with fail
      refine (wakes_yes _).mono ?_
      rintro e w11 ⟨rfl, hb⟩
      have HB := Lib.hid (keepb HB.out hb)
      clear hb
      go_wp2_with fail
      go_ret
      exact ⟨rfl, HB.out⟩
    | some y =>
      have hre : Value.tuple #[.int .u64 (y : Int), .nilIface] = .tuple #[.int .u64 (n : Int), er] := hre
      simp only [Value.tuple.injEq, Array.mk.injEq, List.cons.injEq, Value.int.injEq, and_true, true_and] at hre
      obtain ⟨hn, rfl⟩ := hre
      obtain rfl : n = y := by omega
      unfold roundR at HRR
      simp only at HRR
      have tc : ((n : Int) == (n : Int)) = true := by simp
      have tc' : (n == n) = true := by simp
      clear hn HRE
      go_wp2_with fail
      refine (HRR.out _).mono ?_
      rintro e w9 ⟨rfl, hb⟩
      have HB := Lib.hid (keepb HB.out hb)
      clear hb r0 r1 r2 q0 q1 q2
      go_wp2_with fail
      refine (wakes_yes _).mono ?_
      rintro e w11 ⟨rfl, hb⟩
      have HB := Lib.hid (keepb HB.out hb)
      clear hb
      go_wp2_with fail
      go_ret
      exact ⟨rfl, HB.out⟩
end Go.Proofs.YtjggmdlecdbeeaaDoor.decChecks
