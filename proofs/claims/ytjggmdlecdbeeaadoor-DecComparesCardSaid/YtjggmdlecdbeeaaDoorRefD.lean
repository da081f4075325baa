/- The reference of decimals: the walk of Compare. -/
import Derived.Test.YtjggmdlecdbeeaaDoorRefC
import Derived.Lib.Strings
namespace Go.Proofs.YtjggmdlecdbeeaaDoor
open Go.RowKit
set_option linter.unusedSimpArgs false
set_option linter.unusedVariables false
attribute [local go_sem] SGives_value SGives_skip SGives_enter

theorem less_cmp : ∀ a b : List UInt8, Op.bytesLess a b = decide (Lib.compareBytes a b = -1)
  | [], [] => rfl
  | [], _ :: _ => rfl
  | _ :: _, [] => rfl
  | x :: a, y :: b => by
    have ih := less_cmp a b
    rw [cmpB_cons]
    show (decide (x < y) || (x == y && Op.bytesLess a b)) = _
    rcases u8_tri x y with h | h | h
    · rw [if_pos h, decide_eq_true h]; rfl
    · subst h
      rw [if_neg (u8_irr x), if_neg (u8_irr x), decide_eq_false (u8_irr x), ih]; simp
    · rw [if_neg (u8_asymm h), if_pos h, decide_eq_false (u8_asymm h)]
      have : (x == y) = false := by rw [beq_eq_false_iff_ne]; intro e; rw [e] at h; exact u8_irr y h
      rw [this]; rfl

set_option maxRecDepth 100000 in
set_option maxHeartbeats 2000000 in
theorem rcompare_any (d e : Dm) (w : World) (hd : d.2.1.length ≤ 140737488351300) (he : e.2.1.length ≤ 140737488351300) (xd : nearP d.2.2 = true) (xe : nearP e.2.2 = true) :
    Calls Tryd.prog 20 #[decV d, decV e] w fun r w' => r = .returned (.int .i64 (cmpD d e)) ∧ Below w.heap.size w w' := by
  have HSA := Lib.hid (fun W => rsign_any d W)
  have HSB := Lib.hid (fun W => rsign_any e W)
  have HRA := Lib.hid (signP_range d)
  have HCD := Lib.hid (show cmpD d e = if signP d < signP e then -1 else if signP e < signP d then 1 else if signP d = 0 then 0 else signP d * magP d e from rfl)
  have HMG := Lib.hid (show magP d e = if topD d < topD e then -1 else if topD e < topD d then 1 else Lib.compareBytes d.2.1 e.2.1 from rfl)
  generalize cmpD d e = cd at *
  generalize signP d = s at *
  generalize signP e = r at *
  obtain ⟨g, l, x⟩ := d
  obtain ⟨h, m, y⟩ := e
  simp only [nearP, decide_eq_true_eq] at hd he xd xe
  have HCR := Lib.hid (cmpB_range l m)
  have HCE := Lib.hid (fun k : Lib.compareBytes l m = 0 => cmpB_eq k)
  have hL1 : (⟨l.toArray⟩ : ByteArray).toList = l := Lib.toList_data _
  have hL2 : (⟨m.toArray⟩ : ByteArray).toList = m := Lib.toList_data _
  have HLC := Lib.hid (less_cmp l m)
  obtain ⟨u, hu⟩ : ∃ u : Int, (l.length : Int) + x = u := ⟨_, rfl⟩
  obtain ⟨v, hv⟩ : ∃ v : Int, (m.length : Int) + y = v := ⟨_, rfl⟩
  have k1 : IntKind.i64.wrap ((l.length : Int) + x) = u := by rw [IntWalk.i64_in _ (by omega)]; exact hu
  have k2 : IntKind.i64.wrap ((m.length : Int) + y) = v := by rw [IntWalk.i64_in _ (by omega)]; exact hv
  have HT := Lib.hid (show topD (g, l, x) = u ∧ topD (h, m, y) = v from ⟨hu, hv⟩)
  have K1 := Lib.hid k1
  have K2 := Lib.hid k2
  have KL1 := Lib.hid hL1
  have KL2 := Lib.hid hL2
  clear xd xe hu hv k1 k2 hL1 hL2 hd he
  unfold decV sv at *
  simp only at HSA HSB
  have HB0 := Lib.hid (((Below.refl _ w).alloc (Nat.le_refl _) (.cells #[.bool g, .string ⟨l.toArray⟩, .int .i64 x] 36)).alloc (by simp) (.cells #[.bool h, .string ⟨m.toArray⟩, .int .i64 y] 36))
  have HK0 := Lib.hid ((Blk.new w 36 #[.bool g, .string ⟨l.toArray⟩, .int .i64 x]).alloc (.cells #[.bool h, .string ⟨m.toArray⟩, .int .i64 y] 36))
  have HJ0 := Lib.hid (Blk.new2 w 36 #[.bool h, .string ⟨m.toArray⟩, .int .i64 y] (.cells #[.bool g, .string ⟨l.toArray⟩, .int .i64 x] 36))
  generalize hW0 : ((w.alloc (.cells #[.bool g, .string ⟨l.toArray⟩, .int .i64 x] 36)).alloc (.cells #[.bool h, .string ⟨m.toArray⟩, .int .i64 y] 36)) = W0 at *
  go_enter Tryd.func20, Tryd.ntmps20
  go_upto_region 1 with fail
  clear hW0
  obtain ⟨S, SD⟩ : ∃ S : World → Prop, Go.RowKit.Hid (∀ w' : World, S w' ↔ (Blk w' w.heap.size 36 #[.bool g, .string ⟨l.toArray⟩, .int .i64 x] ∧ Blk w' (w.heap.size + 1) 36 #[.bool h, .string ⟨m.toArray⟩, .int .i64 y] ∧ Below w.heap.size w w')) := ⟨_, Lib.hid (fun _ => Iff.rfl)⟩
  refine wp_region_sure (S := S) (by kernel_rfl) (by kernel_rfl) ((SD.out _).2 ⟨HK0.out.drew, HJ0.out.drew, HB0.out.drew⟩) ?_
  repeat
    (first
      | (refine SureL.no (by rfl) ?_; simp only [Act.put, List.setIfInBounds_toArray, List.set_cons_zero, List.set_cons_succ])
      | (refine' SureL.yes (by rfl) (fun wS hS => ?_) ?_
         rotate_left
         · have hS' := (SD.out _).1 hS
           obtain ⟨hS1, hS2, hBS⟩ := hS'
           obtain ⟨c0, c1, c2, f0, f1, f2⟩ := hS1.three
           obtain ⟨d0, d1, d2, g0, g1, g2⟩ := hS2.three
           go_simp
           first
             | exact ⟨rfl, hS⟩
             | (with_reducible refine (HSA.out _).mono ?_; rintro e w' ⟨rfl, hbn⟩; exact ⟨rfl, (SD.out _).2 ⟨hS1.below hbn hS1.lt, hS2.below hbn hS2.lt, keepb hBS hbn⟩⟩)
             | (with_reducible refine (HSB.out _).mono ?_; rintro e w' ⟨rfl, hbn⟩; exact ⟨rfl, (SD.out _).2 ⟨hS1.below hbn hS1.lt, hS2.below hbn hS2.lt, keepb hBS hbn⟩⟩)
         simp only [Act.put, List.setIfInBounds_toArray, List.set_cons_zero, List.set_cons_succ]))
  refine SureL.nil ?_
  intro wE hE
  obtain ⟨hS1, hS2, hbw⟩ := (SD.out _).1 hE
  have HB3 := Lib.hid hbw
  obtain ⟨c0, c1, c2, f0, f1, f2⟩ := hS1.three
  obtain ⟨d0, d1, d2, g0, g1, g2⟩ := hS2.three
  clear hS1 hS2 hbw hE SD S
  have hs := HRA.out
  have hcd := HCD.out
  rcases Int.lt_trichotomy s r with ho | ho | ho
  · rw [if_pos ho] at hcd
    have t1 : decide (s < r) = true := decide_eq_true ho
    have HC := Lib.hid hcd
    clear ho hs hcd
    go_wp2_with fail
    go_ret
    exact ⟨by rw [HC.out] <;> rfl, HB3.out⟩
  · rw [if_neg (by omega), if_neg (by omega)] at hcd
    subst ho
    have t1 : decide (s < s) = false := by simp
    by_cases hz : s = 0
    · rw [if_pos hz] at hcd
      have HC := Lib.hid hcd
      have t3 : (s == 0) = true := by simpa using hz
      clear hs hcd hz
      go_wp2_with fail
      go_ret
      exact ⟨by rw [HC.out] <;> rfl, HB3.out⟩
    · rw [if_neg hz] at hcd
      have t3 : (s == 0) = false := by simpa using hz
      have t4 : IntKind.i64.wrap (-s) = -s := IntWalk.i64_in _ (by omega)
      have HC := Lib.hid hcd
      have HM2 := Lib.hid (show magP (g, l, x) (h, m, y) = if u < v then -1 else if v < u then 1 else Lib.compareBytes l m by rw [HMG.out, HT.out.1, HT.out.2])
      clear hs hcd hz
      have k1 := K1.out
      have k2 := K2.out
      go_upto_region 8 with fail
      go_quiet (fail)
      clear k1 k2
      have hb4 := below_drewN HB3.out
      rcases Int.lt_trichotomy u v with hp | hp | hp
      · have q1 : decide (u < v) = true := decide_eq_true hp
        have HV := Lib.hid (show cd = -s by rw [HC.out, HM2.out, if_pos hp]; omega)
        clear hp hb4
        go_wp2_with fail
        go_ret
        exact ⟨by rw [HV.out] <;> rfl, below_drewN HB3.out _⟩
      · subst hp
        have q1 : decide (u < u) = false := by simp
        have q2 : (u == u) = true := by simp
        have hL1 := KL1.out
        have hL2 := KL2.out
        have hl := HLC.out
        rcases HCR.out with hc | hc | hc
        · have HV := Lib.hid (show cd = -s by rw [HC.out, HM2.out, if_neg (by omega), if_neg (by omega), hc]; omega)
          rw [hc] at hl
          have hl : Op.bytesLess l m = true := hl
          clear hc hb4
          go_wp2_with fail
          go_ret
          exact ⟨by rw [HV.out] <;> rfl, below_drewN HB3.out _⟩
        · have HV := Lib.hid (show cd = 0 by rw [HC.out, HM2.out, if_neg (by omega), if_neg (by omega), hc]; omega)
          have hee := HCE.out hc
          rw [hc] at hl
          have hl : Op.bytesLess l m = false := hl
          have hq : (l == m) = true := by rw [hee]; simp
          clear hc hb4 hee
          go_wp2_with fail
          go_ret
          exact ⟨by rw [HV.out] <;> rfl, below_drewN HB3.out _⟩
        · have HV := Lib.hid (show cd = s by rw [HC.out, HM2.out, if_neg (by omega), if_neg (by omega), hc]; omega)
          have hq : (l == m) = false := by
            rw [beq_eq_false_iff_ne]
            intro hh
            rw [hh, cmpB_self] at hc
            cases hc
          rw [hc] at hl
          have hl : Op.bytesLess l m = false := hl
          clear hc hb4
          go_wp2_with fail
          go_ret
          exact ⟨by rw [HV.out] <;> rfl, below_drewN HB3.out _⟩
      · have q1 : decide (u < v) = false := decide_eq_false (by omega)
        have q2 : (u == v) = false := by rw [beq_eq_false_iff_ne]; omega
        have q3 : decide (v < u) = true := decide_eq_true hp
        have HV := Lib.hid (show cd = s by rw [HC.out, HM2.out, if_neg (by omega), if_pos hp]; omega)
        clear hp hb4
        go_wp2_with fail
        go_ret
        exact ⟨by rw [HV.out] <;> rfl, below_drewN HB3.out _⟩
  · rw [if_neg (by omega), if_pos ho] at hcd
    have t1 : decide (s < r) = false := decide_eq_false (by omega)
    have t2 : decide (r < s) = true := decide_eq_true ho
    have HC := Lib.hid hcd
    clear ho hs hcd
    go_wp2_with fail
    go_ret
    exact ⟨by rw [HC.out] <;> rfl, HB3.out⟩
end Go.Proofs.YtjggmdlecdbeeaaDoor
