/- The walk of WideBack. -/
import Derived.Test.YtnghcpgdfkchdaaDoorWideN
namespace Go.Proofs.YtnghcpgdfkchdaaDoor.wideBack
open Go.RowKit
set_option linter.unusedSimpArgs false
set_option linter.unusedVariables false

theorem zeros_val (i : Nat) (l : List UInt8) : dval (List.replicate i 48 ++ l) = dval l := by
  induction i with
  | zero => rfl
  | succ i ih =>
    rw [List.replicate_succ, List.cons_append]
    have := dval_append [48] (List.replicate i 48 ++ l)
    simp only [List.singleton_append] at this
    rw [this, ih]
    have h0 : dval [48] = 0 := rfl
    rw [h0]; simp
theorem parse_zeros (x i : Nat) (w : World) (hx : x < tpow 900) (hi : i ≤ 300) : Calls Tryd.prog 19 #[.string ⟨(List.replicate i 48 ++ dtext x).toArray⟩] w (NatE x w) := by
  have hl := tpow_dtext hx (by decide)
  have h := parse_ok (List.replicate i 48 ++ dtext x) w (by simp; omega) (by simp [dtext_ne]) (fun c hc => by
    rcases List.mem_append.1 hc with h | h
    · rw [(List.mem_replicate.1 h).2]; rfl
    · exact dtext_digits x c h)
  rw [zeros_val, dtext_val] at h
  refine h.mono fun e w' h1 => ?_
  unfold NatB at h1
  rwa [if_pos (Nat.le_trans (tpow_blen hx) (by decide))] at h1

theorem cat_zero (z : List UInt8) : ((⟨#[48]⟩ : ByteArray) ++ ⟨z.toArray⟩) = ⟨(48 :: z).toArray⟩ := by
  apply ByteArray.ext
  rw [ByteArray.data_append]
  simp

set_option maxRecDepth 100000 in
set_option maxHeartbeats 4000000 in
theorem walk (a0 : ByteArray) (a1 : Int) (w : World) (w0 : a0.size ≤ maxLen) (s0 : a0.size ≤ 140737488351232) (w1 : (Lit.int .i64 a1).wf = true) :
    Calls Tryd.prog 4 #[.string a0, .int .i64 a1] w fun e w' => e = .returned (.bool true) ∧ Below w.heap.size w w' := by
  obtain ⟨s, rfl⟩ : ∃ s : List UInt8, a0 = ⟨s.toArray⟩ := ⟨a0.data.toList, by simp⟩
  have s0 : s.length ≤ 140737488351232 := s0
  clear w0 w1
  have HD := Lib.hid (fun W => digits_any s W (by omega))
  go_enter Tryd.func4, Tryd.ntmps4
  go_wp2_with fail
  refine (HD.out _).mono ?_
  rintro e w1 ⟨x, rfl, hx, hb1⟩
  have HP := Lib.hid (fun W i hi => parse_zeros x i W hx hi)
  have HPS := Lib.hid (fun W => parse_small x W hx)
  have hdl := tpow_dtext hx (by decide)
  have hbx : blen x ≤ 3600 := tpow_blen hx
  have HB1 := Lib.hid hb1
  have HTX := Lib.hid (fun v W (hv : NatW W v x) => text_nat v x W hv (by omega))
  have HSM := Lib.hid (fun v u W (hv : NatW W v x) (hu : NatW W u x) => same_yes v u x W hv hu (by omega))
  clear hx hb1 hbx
  generalize dtext x = t at *
  go_wp2_with fail
  go_loop [6, 7] (fun z i => ∃ j : Nat, z = .string ⟨(List.replicate j 48 ++ t).toArray⟩ ∧ i = .int .i64 j ∧ j ≤ 300) (fun _ i => 300 - (intOf i).toNat)
  case atStart => exact ⟨0, rfl, rfl, by omega⟩
  case round =>
    obtain ⟨j, rfl, rfl, hj⟩ := hrel
    by_cases hgo : (j : Int) < a1 ∧ j < 300
    · obtain ⟨h1, h3⟩ := hgo
      have t1 : decide ((j : Int) < a1) = true := by simpa using h1
      have t2 : decide ((j : Int) < 300) = true := by simp; omega
      have t2' : decide (j < 300) = true := by simp; omega
      have HRE : Hid (48 :: (List.replicate j 48 ++ t) = List.replicate (j + 1) 48 ++ t) := by rw [List.replicate_succ, List.cons_append]; exact rfl
      have hzl : (List.replicate j 48 ++ t).length ≤ 1200 := by simp; omega
      generalize List.replicate j 48 ++ t = z at *
      go_wp2_with fail
      go_round
      case rel => exact ⟨j + 1, by rw [cat_zero, HRE.out], by go_num, by omega⟩
      case measure => simp [intOf]; omega
    · have hor : decide ((j : Int) < a1) = false ∨ (decide ((j : Int) < a1) = true ∧ decide ((j : Int) < 300) = false ∧ decide (j < 300) = false) := by
        by_cases h : (j : Int) < a1
        · right; exact ⟨by simpa using h, by simp; omega, by simp; omega⟩
        · left; simpa using h
      have HPJ := Lib.hid (fun W => HP.out W j hj)
      clear hgo
      generalize List.replicate j 48 ++ t = z at *
      rcases hor with t1 | ⟨t1, t2, t2'⟩
      all_goals
        go_wp2_with fail
        refine (HPJ.out _).mono ?_
        rintro e w2 ⟨v, rfl, hv, hb2⟩
        have HV := Lib.hid hv
        obtain ⟨A, n, c, rfl, _⟩ := hv
        have HB2 := Lib.hid (keepb HB1.out hb2)
        clear hb2
        have HB2a := Lib.hid (HB2.out.alloc HB2.out.size (.cells #[.slice A n c] 42))
        have HVa := Lib.hid (HV.out.below (below_new w2 (.cells #[.slice A n c] 42)))
        go_wp2_with fail
        refine (HTX.out _ _ HVa.out).mono ?_
        rintro e w3 ⟨rfl, hb3⟩
        have c3 := keepc hb3 (b := w2.heap.size) (o := 0) (by simp) (show _ = some (.slice A n c) by simp)
        have hz3 := hb3.size
        simp at hz3
        have HV3 := Lib.hid (HVa.out.below hb3)
        have HB3 := Lib.hid (keepb HB2a.out hb3)
        clear hb3
        go_wp2_with fail
        refine (HPS.out _).mono ?_
        rintro e w4 ⟨u, rfl, hu, hb4⟩
        have c4 := keepc hb4 (show w2.heap.size < w3.heap.size by omega) c3
        have hz4 := hb4.size
        have HV4 := Lib.hid (HV3.out.below hb4)
        have HB4 := Lib.hid (keepb HB3.out hb4)
        have HU4 := Lib.hid hu
        obtain ⟨B, m, d, rfl, _⟩ := hu
        clear hb4 c3
        have HB4a := Lib.hid (HB4.out.alloc HB4.out.size (.cells #[.slice B m d] 42))
        have HVb := Lib.hid (HV4.out.below (below_new w4 (.cells #[.slice B m d] 42)))
        have HUb := Lib.hid (HU4.out.below (below_new w4 (.cells #[.slice B m d] 42)))
        have htt : (t == t) = true := by simp
        have hlt24 : w2.heap.size < w4.heap.size := by omega
        have c4a : (w4.alloc (.cells #[.slice B m d] 42)).cell? ⟨w2.heap.size, 0, none⟩ = some (.slice A n c) := keepc (below_new w4 _) hlt24 c4
        go_wp2_with fail
        refine (HTX.out _ _ HVb.out).mono ?_
        rintro e w5 ⟨rfl, hb5⟩
        have c5 := keepc hb5 (b := w2.heap.size) (o := 0) (by simp; omega) c4a
        have d5 := keepc hb5 (b := w4.heap.size) (o := 0) (by simp) (show _ = some (.slice B m d) by simp)
        have HV5 := Lib.hid (HVb.out.below hb5)
        have HU5 := Lib.hid (HUb.out.below hb5)
        have HB5 := Lib.hid (keepb HB4a.out hb5)
        clear hb5 c4 c4a
        go_wp2_with fail
        refine (HSM.out _ _ _ HV5.out HU5.out).mono ?_
        rintro e w6 ⟨rfl, hb6⟩
        have HB6 := Lib.hid (keepb HB5.out hb6)
        clear hb6 c5 d5
        go_wp2_with fail
        refine (wakes_yes _).mono ?_
        rintro e w7 ⟨rfl, hb7⟩
        have HB7 := Lib.hid (keepb HB6.out hb7)
        clear hb7
        go_wp2_with fail
        go_ret
        exact ⟨rfl, HB7.out⟩
end Go.Proofs.YtnghcpgdfkchdaaDoor.wideBack
