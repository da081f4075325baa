/- The contracts of utf.Feeder's Feed, End, Place, Held, of New, Check, Right. -/
import Derived.Test.YtmdgopclcdmenaaUtfJ
namespace Go.Proofs.Ytmdgopclcdmenaa
open Go.RowKit
set_option linter.unusedSimpArgs false
set_option linter.unusedVariables false

/-- What a feeder tells: what is wrong. -/
def faultV (f : Fd) : Value := if f.bad = true then spotE 30 f.place else .nilIface
def endV (f : Fd) : Value := if f.held = [] then faultV f else spotE 31 f.place

theorem fault_any (b : Nat) (f : Fd) (w : World) (hf : FB w b f) :
    Calls Try.prog 50 #[.pointer (some ⟨b, 0, none⟩)] w fun e w' => e = .returned (faultV f) ∧ w = w' := by
  obtain ⟨hs, h1, h2, h3, hk⟩ := hf
  have c0 := hk.cell 0
  rw [fcells_0] at c0
  have c6 := hk.cell 6
  rw [(fcells_m _ _ _ _ h1).2] at c6
  clear h1 h2 h3 hk
  by_cases hb : f.bad = true
  · have hv : faultV f = spotE 30 f.place := by unfold faultV; rw [if_pos hb]
    rw [hv]
    rw [hb] at c6
    clear hb hv
    generalize f.place = p at *
    go_enter Try.func50, Try.ntmps50
    go_wp2
    go_ret
    exact ⟨rfl, rfl⟩
  · have hb : f.bad = false := by simpa using hb
    have hv : faultV f = .nilIface := by unfold faultV; rw [if_neg (by rw [hb]; decide)]
    rw [hv]
    rw [hb] at c6
    clear hb hv
    go_enter Try.func50, Try.ntmps50
    go_wp2
    go_ret
    exact ⟨rfl, rfl⟩

theorem end_any (b : Nat) (f : Fd) (w : World) (hf : FB w b f) :
    Calls Try.prog 20 #[.pointer (some ⟨b, 0, none⟩)] w fun e w' => e = .returned (endV f) ∧ w = w' := by
  have HF := Lib.hid (fault_any b f w hf)
  obtain ⟨hs, h1, h2, h3, hk⟩ := hf
  have c0 := hk.cell 0
  rw [fcells_0] at c0
  have c5 := hk.cell 5
  rw [(fcells_m _ _ _ _ h1).1] at c5
  clear h1 h2 hk
  by_cases hh : f.held = []
  · have hv : endV f = faultV f := by unfold endV; rw [if_pos hh]
    rw [hv]
    rw [hh] at c5
    have c5 : w.cell? ⟨b, 5, none⟩ = some (.int .i64 0) := c5
    clear hh hv h3
    generalize faultV f = v at *
    go_enter Try.func20, Try.ntmps20
    go_wp2_with (go_at_call 50; (with_reducible refine HF.out.mono ?_); rintro e w1 ⟨rfl, rfl⟩)
    go_ret
    exact ⟨rfl, rfl⟩
  · have hv : endV f = spotE 31 f.place := by unfold endV; rw [if_neg hh]
    rw [hv]
    have hp : 0 < f.held.length := List.length_pos_iff.2 hh
    have hp' : (0 : Int) < f.held.length := by omega
    clear hh hv
    generalize f.held.length = m at *
    generalize f.place = p at *
    go_enter Try.func20, Try.ntmps20
    go_wp2
    go_ret
    exact ⟨rfl, rfl⟩

theorem place_of (b : Nat) (f : Fd) (w : World) (hf : FB w b f) :
    Calls Try.prog 21 #[.pointer (some ⟨b, 0, none⟩)] w fun e w' => e = .returned (.int .i64 f.place) ∧ w = w' := by
  obtain ⟨hs, h1, h2, h3, hk⟩ := hf
  have c0 := hk.cell 0
  rw [fcells_0] at c0
  clear h1 h2 h3 hk
  go_enter Try.func21, Try.ntmps21
  go_wp2
  go_ret
  exact ⟨rfl, rfl⟩
theorem held_of (b : Nat) (f : Fd) (w : World) (hf : FB w b f) :
    Calls Try.prog 22 #[.pointer (some ⟨b, 0, none⟩)] w fun e w' => e = .returned (.int .i64 f.held.length) ∧ w = w' := by
  obtain ⟨hs, h1, h2, h3, hk⟩ := hf
  have c5 := hk.cell 5
  rw [(fcells_m _ _ _ _ h1).1] at c5
  clear h1 h2 h3 hk
  go_enter Try.func22, Try.ntmps22
  go_wp2
  go_ret
  exact ⟨rfl, rfl⟩

theorem new_any (w : World) : Calls Try.prog 34 #[] w fun e w' => e = .returned (.pointer (some ⟨w.heap.size, 0, none⟩)) ∧ FB w' w.heap.size fini ∧ Below w.heap.size w w' := by
  go_enter Try.func34, Try.ntmps34
  go_wp2
  go_ret
  exact ⟨rfl, ⟨[0, 0, 0, 0], rfl, rfl, (show (0 : Nat) < 4 by decide), Blk.new w _ _⟩, by go_grown⟩

set_option maxRecDepth 100000 in
set_option maxHeartbeats 1000000 in
theorem feed_any (b : Nat) (f : Fd) (A : Option Addr) (n c B : Nat) (bs : List UInt8) (w : World) (hf : FB w b f) (hok : Fok f) (h : RB w B A n bs) (hne : ∀ g o, A = some ⟨g, o, none⟩ → 0 < n → g ≠ b) (hB : B ≤ w.heap.size) (hn : n ≤ 1000000000000000) (hp : f.place ≤ 1000000000000000) :
    Calls Try.prog 19 #[.pointer (some ⟨b, 0, none⟩), .slice A n c] w fun e w' => e = .returned (faultV (frun f bs)) ∧ FB w' b (frun f bs) ∧ But w.heap.size b w w' := by
  have hl := h.1
  subst hl
  have HR := Lib.hid h
  have HNE := Lib.hid hne
  have HOK := Lib.hid hok
  have HF := Lib.hid hf
  have hbl := hf.lt
  clear h hne hok hf
  go_enter Try.func19, Try.ntmps19
  go_wp2
  go_loopw [5] (fun i wr => ∃ j : Nat, j ≤ bs.length ∧ i = .int .i64 j ∧ FB wr b (frun f (bs.take j)) ∧ But w.heap.size b w wr ∧ (frun f (bs.take j)).place ≤ f.place + j) (fun i _ => bs.length - (intOf i).toNat)
  case atStart => exact ⟨0, by omega, rfl, HF.out, But.refl _ _ _, by simp [frun_nil]⟩
  case round =>
    obtain ⟨j, hj, rfl, hf, hbut, hpl⟩ := hrel
    have HFB := Lib.hid hf
    have HBUT := Lib.hid hbut
    have hsr := hbut.size
    have hc6 : wr.cell? ⟨b, 6, none⟩ = some (.bool (frun f (bs.take j)).bad) := by
      obtain ⟨hs, h1, h2, h3, hk⟩ := hf
      rw [hk.cell 6, (fcells_m _ _ _ _ h1).2]
    clear hf hbut
    by_cases hbad : (frun f (bs.take j)).bad = true
    · have hend : frun f bs = frun f (bs.take j) := by
        conv => lhs; rw [← List.take_append_drop j bs, frun_append]
        exact frun_bad hbad _
      rw [hbad] at hc6
      have HEND := Lib.hid hend
      have HFT := Lib.hid (fault_any b _ wr HFB.out)
      clear hbad hend
      generalize frun f (bs.take j) = g at *
      generalize hv : faultV g = v at *
      have HV := Lib.hid hv
      clear hv
      by_cases hlt : j < bs.length
      · go_wp2_with (go_at_call 50; (with_reducible refine HFT.out.mono ?_); rintro e w1 ⟨rfl, rfl⟩)
        go_ret
        exact ⟨by rw [HEND.out, HV.out]; rfl, by rw [HEND.out]; exact HFB.out, HBUT.out⟩
      · go_wp2_with (go_at_call 50; (with_reducible refine HFT.out.mono ?_); rintro e w1 ⟨rfl, rfl⟩)
        go_ret
        exact ⟨by rw [HEND.out, HV.out]; rfl, by rw [HEND.out]; exact HFB.out, HBUT.out⟩
    · have hbad : (frun f (bs.take j)).bad = false := by simpa using hbad
      rw [hbad] at hc6
      by_cases hlt : j < bs.length
      · obtain ⟨g, o, rfl, hg, hcc⟩ := HR.out.2 (by omega)
        have hgb := HNE.out g o rfl (by omega)
        have hcell : wr.cell? ⟨g, o + j, none⟩ = some (bv bs[j]) := by
          rw [HBUT.out.cell (p := ⟨g, o + j, none⟩) (show g < w.heap.size by omega) hgb]; exact hcc j hlt
        have htk := List.take_succ_eq_append_getElem hlt
        have hsn := frun_snoc f (bs.take j) bs[j]
        rw [← htk] at hsn
        have hokj := frun_ok HOK.out (bs.take j)
        have HSN := Lib.hid hsn
        have HTA := Lib.hid (take_any b _ bs[j] wr HFB.out hokj)
        have HB := Lib.hid hbad
        clear hcc htk hsn hokj hbad
        generalize bs[j] = x at *
        generalize frun f (bs.take j) = s at *
        go_wp2_with fail
        refine HTA.out.mono ?_
        rintro e w2 ⟨t1, t2, hb2⟩
        have HB2 := Lib.hid hb2
        have hs2 := hb2.size
        cases htk : tk s.held x with
        | none =>
          obtain ⟨rfl, hf2⟩ := t2 htk
          have hst := fstep_fail HB.out htk
          have HST := Lib.hid (HSN.out.trans hst)
          have hf2' := hf2
          obtain ⟨hs, h1, h2, h3, hk⟩ := hf2'
          have d5 := hk.cell 5
          rw [(fcells_m _ _ _ _ h1).1] at d5
          have d6 := hk.cell 6
          rw [(fcells_m _ _ _ _ h1).2, HB.out] at d6
          have e5 := hk.frozen 5
          have e6 := hk.frozen 6
          have HK := Lib.hid hk
          have H1 := Lib.hid h1
          clear t1 t2 htk hst hf2 h1 h2 h3 hk hb2 hc6 hcell
          go_wp2
          go_roundw
          case rel =>
            have hk2 := (HK.out.set1 6 (.bool true)).set1 5 (.int .i64 ((0 : Nat) : Int))
            rw [fcells_setb _ _ _ _ _ H1.out, fcells_setm _ _ _ _ _ H1.out] at hk2
            refine ⟨j + 1, by omega, by go_num, ?_, ((HBUT.out.trans (HB2.out.mono hsr)).setCell (p := ⟨b, 6, none⟩) (.inl rfl) _).setCell (p := ⟨b, 5, none⟩) (.inl rfl) _, ?_⟩
            · rw [HST.out]; exact ⟨hs, H1.out, rfl, (show (0 : Nat) < 4 by decide), hk2⟩
            · rw [HST.out]; show s.place ≤ _; omega
          case measure => simp [intOf]; omega
        | some h' =>
          obtain ⟨rfl, hf2⟩ := t1 h' htk
          have hst := fstep_good HB.out htk
          have HST := Lib.hid (HSN.out.trans hst)
          have hf2' := hf2
          obtain ⟨hs, h1, h2, h3, hk⟩ := hf2'
          have d0 := hk.cell 0
          rw [fcells_0] at d0
          have e0 := hk.frozen 0
          have HK := Lib.hid hk
          have H1 := Lib.hid h1
          have H2 := Lib.hid h2
          have HBAD := HB
          have d0 : w2.cell? ⟨b, 0, none⟩ = some (.int .i64 s.place) := d0
          clear t1 t2 htk hst hf2 h1 h2 hk hb2 hc6 hcell
          go_wp2
          go_roundw
          case rel =>
            have hk2 := HK.out.set1 0 (.int .i64 ((s.place + 1 : Nat) : Int))
            rw [fcells_set0] at hk2
            refine ⟨j + 1, by omega, by go_num, ?_, (HBUT.out.trans (HB2.out.mono hsr)).setCell (p := ⟨b, 0, none⟩) (.inl rfl) _, ?_⟩
            · rw [HST.out]; exact ⟨hs, H1.out, H2.out, h3, by rw [HB.out] at hk2; exact hk2⟩
            · rw [HST.out]; show s.place + 1 ≤ _; omega
          case measure => simp [intOf]; omega
      · obtain rfl : j = bs.length := by omega
        have hend : frun f bs = frun f (bs.take bs.length) := by rw [List.take_length]
        have HEND := Lib.hid hend
        have HFT := Lib.hid (fault_any b _ wr HFB.out)
        clear hbad hlt hend
        generalize frun f (bs.take bs.length) = g at *
        generalize hv : faultV g = v at *
        have HV := Lib.hid hv
        clear hv
        go_wp2_with (go_at_call 50; (with_reducible refine HFT.out.mono ?_); rintro e w1 ⟨rfl, rfl⟩)
        go_ret
        exact ⟨by rw [HEND.out, HV.out]; rfl, by rw [HEND.out]; exact HFB.out, HBUT.out⟩

/-- What is told of bytes: nothing, or a Spot. -/
def uwrongV (s : List UInt8) : Value := if (wrong s).1 = 0 then .nilIface else spotE (wrong s).1 (wrong s).2
theorem endV_wrong (s : List UInt8) : endV (frun fini s) = uwrongV s := by
  unfold endV uwrongV faultV
  cases hb : (frun fini s).bad with
  | true =>
    obtain ⟨h1, h2, _⟩ := fd_bad s hb
    rw [if_pos h2, if_pos rfl, h1]
    rfl
  | false =>
    obtain ⟨h1, _, h3⟩ := fd_good s hb
    by_cases hh : (frun fini s).held = []
    · rw [if_pos hh] at h3 ⊢
      rw [h3]; rfl
    · rw [if_neg hh] at h3 ⊢
      rw [h3, h1]
      rfl

/-- utf.Check. -/
theorem check_any (A : Option Addr) (n c B : Nat) (bs : List UInt8) (w : World) (h : RB w B A n bs) (hB : B ≤ w.heap.size) (hn : n ≤ 1000000000000000) :
    Calls Try.prog 38 #[.slice A n c] w fun e w' => e = .returned (uwrongV bs) ∧ Below w.heap.size w w' := by
  have HR := Lib.hid h
  have HE := Lib.hid (endV_wrong bs)
  clear h
  go_enter Try.func38, Try.ntmps38
  go_wp2_with fail
  refine (new_any w).mono ?_
  rintro e w1 ⟨rfl, hf, hb1⟩
  have HF := Lib.hid hf
  have HB1 := Lib.hid hb1
  have hs1 := hb1.size
  clear hf hb1
  go_wp2_with fail
  refine (feed_any w.heap.size fini A n c w.heap.size bs w1 HF.out fini_ok ((HR.out.mono hB).below HB1.out) (fun g o hA hn => by have := (HR.out.mono hB).lt g o hA hn; omega) hs1 hn (Nat.zero_le _)).mono ?_
  rintro e w2 ⟨rfl, hf2, hbut⟩
  have HF2 := Lib.hid hf2
  have hbel : Below w.heap.size w w2 := HB1.out.trans ((hbut.mono hs1).toBelow (Nat.le_refl _))
  have HBE := Lib.hid hbel
  clear hf2 hbut hbel
  generalize faultV (frun fini bs) = v
  go_wp2_with fail
  refine (end_any w.heap.size _ w2 HF2.out).mono ?_
  rintro e w' ⟨rfl, rfl⟩
  rw [HE.out]
  generalize hv2 : uwrongV bs = v2
  have HV2 := Lib.hid hv2
  clear hv2
  go_wp2_with fail
  go_ret
  exact ⟨by rw [HV2.out]; rfl, HBE.out⟩
theorem uwrongV_right {s : List UInt8} (h : right s = true) : uwrongV s = .nilIface := by
  have : (wrong s).1 = 0 := of_decide_eq_true h
  unfold uwrongV; rw [if_pos this]
theorem uwrongV_not {s : List UInt8} (h : right s = false) : uwrongV s = spotE (wrong s).1 (wrong s).2 := by
  have : ¬ (wrong s).1 = 0 := of_decide_eq_false h
  unfold uwrongV; rw [if_neg this]

/-- utf.Right. -/
theorem uright_any (s : List UInt8) (w : World) (hn : s.length ≤ 1000000000000000) :
    Calls Try.prog 39 #[.string ⟨s.toArray⟩] w fun e w' => e = .returned (.bool (right s)) ∧ Below w.heap.size w w' := by
  have hk := fun W => run_tobytes W s
  obtain ⟨l, hl1, hl2, hl3, hl4, hl5, hl6⟩ := newB w s (by omega)
  have hrb := hl5.rb s.length hl3
  rw [hl2] at hrb
  have HRB := Lib.hid hrb
  have HB := Lib.hid hl6
  have hlt := hl5.lt
  clear hl1 hl2 hl3 hl4 hl5 hl6 hrb
  by_cases hr : right s = true
  · have hv := uwrongV_right hr
    rw [hr]
    have HV := Lib.hid hv
    clear hr hv
    go_enter Try.func39, Try.ntmps39
    go_wp2_with fail
    refine (check_any _ _ _ (w.heap.size + 1) s _ HRB.out hlt hn).mono ?_
    rw [HV.out]
    rintro e w1 ⟨rfl, hb1⟩
    go_wp2_with fail
    go_ret
    exact ⟨rfl, keepb HB.out hb1⟩
  · have hr : right s = false := by simpa using hr
    have hv := uwrongV_not hr
    rw [hr]
    have HV := Lib.hid hv
    clear hr hv
    generalize (wrong s).1 = x at *
    generalize (wrong s).2 = y at *
    go_enter Try.func39, Try.ntmps39
    go_wp2_with fail
    refine (check_any _ _ _ (w.heap.size + 1) s _ HRB.out hlt hn).mono ?_
    rw [HV.out]
    rintro e w1 ⟨rfl, hb1⟩
    go_wp2_with fail
    go_ret
    exact ⟨rfl, keepb HB.out hb1⟩
end Go.Proofs.Ytmdgopclcdmenaa
