/- The walk of WideDivs. -/
import Derived.Test.YtnghcpgdfkchdaaDoorWideN
import Derived.Test.YtnghcpgdfkchdaaDoorFourE
namespace Go.Proofs.YtnghcpgdfkchdaaDoor.wideDivs
open Go.RowKit
attribute [local go_sem] SGives_value SGives_skip SGives_enter
set_option linter.unusedSimpArgs false
set_option linter.unusedVariables false

theorem pv_mk {hi lo : Nat} (hl : lo < W64) : pv (W64 * hi + lo) = .agg #[wv hi, wv lo] := by unfold pv; rw [pHi_mk hl, pLo_mk hl]

set_option maxRecDepth 100000 in
set_option maxHeartbeats 2000000 in
theorem walkN (hi lo d : Nat) (hh : hi < W64) (hl : lo < W64) (hd : d < W64) (w : World) :
    Calls Tryd.prog 3 #[wv hi, wv lo, wv d] w fun e w' => e = .returned (.bool true) ∧ Below w.heap.size w w' := by
  have hN : W64 * hi + lo < P128 := p_lt hh hl
  have HC := Lib.hid (fun W => cut_any hi lo hh hl W)
  have hpv := pv_mk (hi := hi) hl
  generalize W64 * hi + lo = N at *
  rcases Nat.eq_zero_or_pos d with rfl | hd0
  · have H1 := Lib.hid (fun W => div_pair0 N W)
    rw [hpv] at H1
    have H2 := Lib.hid (fun W => rdiv_zero N W)
    clear hpv hN hd
    unfold fv at *
    generalize q0 N = x0 at *
    generalize q1 N = x1 at *
    generalize q2 N = x2 at *
    generalize q3 N = x3 at *
    clear hh hl
    go_enter Tryd.func3, Tryd.ntmps3
    go_wp2_with fail
    refine (H1.out _).mono ?_
    rintro e w1 ⟨rfl, hb⟩
    have HB1 := Lib.hid ((hb.alloc hb.size (.cells #[wv 0, wv 0] 24)))
    have G1 := Lib.hid (Blk.new w1 24 #[wv 0, wv 0])
    clear hb
    go_wp2_with fail
    refine (HC.out _).mono ?_
    rintro e w2 ⟨rfl, hb⟩
    have G2 := Lib.hid (G1.out.st hb)
    have HB2 := Lib.hid (keepb HB1.out hb)
    clear hb
    go_wp2_with fail
    refine (H2.out _).mono ?_
    rintro e w3 ⟨rfl, hb⟩
    have G3 := Lib.hid ((G2.out.st hb).alloc (.cells #[.int .u64 0, .int .u64 0, .int .u64 0, .int .u64 0] 30))
    have hb3 := keepb HB2.out hb
    have HB3 := Lib.hid (hb3.alloc hb3.size (.cells #[.int .u64 0, .int .u64 0, .int .u64 0, .int .u64 0] 30))
    clear hb hb3
    have c0 := G3.out.cell 0
    have c1 := G3.out.cell 1
    go_wp2_with fail
    refine (number_yes 13 _).mono ?_
    rintro e w4 ⟨rfl, rfl⟩
    go_wp2_with fail
    refine (wakes_yes _).mono ?_
    rintro e w5 ⟨rfl, hb⟩
    have HBE := Lib.hid (keepb HB3.out hb)
    clear hb c0 c1
    go_wp2_with fail
    go_ret
    exact ⟨rfl, HBE.out⟩
  · have H1 := Lib.hid (fun W => div_pair N d hN hd0 hd W)
    rw [hpv] at H1
    have H2 := Lib.hid (fun W => rdiv_any N d hN hd0 hd W)
    have H3 := Lib.hid (fun W => pair_any (N / d) (Nat.lt_of_le_of_lt (Nat.div_le_self _ _) hN) W)
    clear hpv hN hd hd0
    unfold pv fv at *
    generalize q0 N = x0 at *
    generalize q1 N = x1 at *
    generalize q2 N = x2 at *
    generalize q3 N = x3 at *
    generalize N % d = l at *
    generalize N / d = Q at *
    generalize pHi Q = qh at *
    generalize pLo Q = ql at *
    generalize q0 Q = y0 at *
    generalize q1 Q = y1 at *
    generalize q2 Q = y2 at *
    generalize q3 Q = y3 at *
    clear hh hl
    go_enter Tryd.func3, Tryd.ntmps3
    go_wp2_with fail
    refine (H1.out _).mono ?_
    rintro e w1 ⟨rfl, hb⟩
    have HB1 := Lib.hid ((hb.alloc hb.size (.cells #[wv qh, wv ql] 24)))
    have G1 := Lib.hid (Blk.new w1 24 #[wv qh, wv ql])
    clear hb
    go_wp2_with fail
    refine (HC.out _).mono ?_
    rintro e w2 ⟨rfl, hb⟩
    have G2 := Lib.hid (G1.out.st hb)
    have HB2 := Lib.hid (keepb HB1.out hb)
    clear hb
    go_wp2_with fail
    refine (H2.out _).mono ?_
    rintro e w3 ⟨rfl, hb⟩
    have G3 := (G2.out.st hb).alloc (.cells #[wv y0, wv y1, wv y2, wv y3] 30)
    have K3 := Blk.new w3 30 #[wv y0, wv y1, wv y2, wv y3]
    have hb3 := keepb HB2.out hb
    have HB3 := hb3.alloc hb3.size (.cells #[wv y0, wv y1, wv y2, wv y3] 30)
    clear hb hb3
    go_wp2_with fail
    obtain ⟨S, SD⟩ : ∃ S : World → Prop, Go.RowKit.Hid (∀ w' : World, S w' ↔ (Blk w' w1.heap.size 24 #[wv qh, wv ql] ∧ Blk w' w3.heap.size 30 #[wv y0, wv y1, wv y2, wv y3] ∧ Below w.heap.size w w')) := ⟨_, Lib.hid (fun _ => Iff.rfl)⟩
    refine wp_region_sure (S := S) (by kernel_rfl) (by kernel_rfl) ((SD.out _).2 (⟨G3, K3, HB3.drew⟩)) ?_
    repeat
      (first
        | (refine SureL.no (by rfl) ?_; simp only [Act.put, List.setIfInBounds_toArray, List.set_cons_zero, List.set_cons_succ])
        | (refine' SureL.yes (by rfl) (fun wS hS => ?_) ?_
           rotate_left
           · have hS' := (SD.out _).1 hS
             obtain ⟨h1, h2, hB⟩ := hS'
             have c0 := h1.cell 0
             have c1 := h1.cell 1
             have d0 := h2.cell 0
             have d1 := h2.cell 1
             have d2 := h2.cell 2
             have d3 := h2.cell 3
             go_simp
             first
               | exact ⟨rfl, hS⟩
               | (go_at_call 17; refine (H3.out _).mono ?_; rintro e w' ⟨rfl, hb⟩; exact ⟨rfl, (SD.out _).2 ⟨h1.st hb, h2.st hb, keepb hB hb⟩⟩)
               | (go_at_call 16; refine (wakes_yes _).mono ?_; rintro e w' ⟨rfl, hb⟩; exact ⟨rfl, (SD.out _).2 ⟨h1.st hb, h2.st hb, keepb hB hb⟩⟩)
           simp only [Act.put, List.setIfInBounds_toArray, List.set_cons_zero, List.set_cons_succ]))
    refine SureL.nil ?_
    intro wE hE
    obtain ⟨h1, h2, hB⟩ := (SD.out _).1 hE
    go_wp2_with fail
    go_ret
    exact ⟨rfl, hB⟩

theorem walk (a0 : Int) (a1 : Int) (a2 : Int) (w : World) (w0 : (Lit.int .u64 a0).wf = true) (w1 : (Lit.int .u64 a1).wf = true) (w2 : (Lit.int .u64 a2).wf = true) :
    Calls Tryd.prog 3 #[.int .u64 a0, .int .u64 a1, .int .u64 a2] w fun e w' => e = .returned (.bool true) ∧ Below w.heap.size w w' := by
  have b0 := bounds_u64 w0
  have b1 := bounds_u64 w1
  have b2 := bounds_u64 w2
  obtain ⟨n0, rfl⟩ := Int.eq_ofNat_of_zero_le b0.1
  obtain ⟨n1, rfl⟩ := Int.eq_ofNat_of_zero_le b1.1
  obtain ⟨n2, rfl⟩ := Int.eq_ofNat_of_zero_le b2.1
  exact walkN n0 n1 n2 (by unfold W64; omega) (by unfold W64; omega) (by unfold W64; omega) w
end Go.Proofs.YtnghcpgdfkchdaaDoor.wideDivs
