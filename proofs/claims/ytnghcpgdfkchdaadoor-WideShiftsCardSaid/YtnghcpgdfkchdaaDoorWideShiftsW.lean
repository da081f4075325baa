/- The walk of WideShifts. -/
import Derived.Test.YtnghcpgdfkchdaaDoorWideN
import Derived.Test.YtnghcpgdfkchdaaDoorNatO
import Derived.IntWalk
import Derived.Deep.RegionHeld3
import Derived.Test.YtnghcpgdfkchdaaDoorSure
namespace Go.Proofs.YtnghcpgdfkchdaaDoor.wideShifts
open Go.RowKit
attribute [local go_sem] SGives_value SGives_skip SGives_enter
set_option linter.unusedSimpArgs false
set_option linter.unusedVariables false

theorem len_zero (v : Value) (w : World) (hv : NatW w v 0) : Calls Tryd.prog 41 #[v] w fun e w' => e = .returned (.int .i64 0) ∧ Below w.heap.size w w' := len_nat v 0 w hv (by decide)
theorem bit_top {u : Nat} (h : 0 < u) : bitV u ((blen u - 1 : Nat) : Int) = true := by
  have h1 := blen_ge (show u ≠ 0 by omega)
  have h2 := blen_lt u
  have h3 := blen_pos (show u ≠ 0 by omega)
  have h4 : u / 2 ^ (blen u - 1) = 1 := by
    apply Nat.le_antisymm
    · have : u < 2 ^ (blen u - 1) * 2 := by rw [← Nat.pow_succ, Nat.succ_eq_add_one, show blen u - 1 + 1 = blen u by omega]; exact h2
      have := Nat.div_lt_of_lt_mul this
      omega
    · exact (Nat.one_le_div_iff (Nat.pow_pos (by omega))).2 h1
  unfold bitV
  rw [Int.toNat_natCast, h4]
  simp
theorem bit_above (u : Nat) : bitV u ((blen u : Nat) : Int) = false := by
  unfold bitV
  rw [Int.toNat_natCast, Nat.div_eq_of_lt (blen_lt u)]
  simp
theorem bit_along (x q K : Nat) : bitV (x * 2 ^ K) ((q : Int) + (K : Int)) = bitV x q := by
  unfold bitV
  rw [show ((q : Int) + (K : Int)) = ((q + K : Nat) : Int) by omega, Int.toNat_natCast, Int.toNat_natCast, Nat.pow_add, Nat.mul_div_mul_right _ _ (Nat.pow_pos (by omega))]
  simp
  intro _; omega
theorem bit_below (x : Nat) : bitV x (-1) = false := by unfold bitV; simp

set_option maxRecDepth 100000 in
set_option maxHeartbeats 8000000 in
theorem walk (a0 : ByteArray) (a1 a2 : Int) (w : World) (w0 : a0.size ≤ maxLen) (s0 : a0.size ≤ 140737488351232) (w1 : (Lit.int .i64 a1).wf = true) (w2 : (Lit.int .i64 a2).wf = true) :
    Calls Tryd.prog 8 #[.string a0, .int .i64 a1, .int .i64 a2] w fun e w' => e = .returned (.bool true) ∧ Below w.heap.size w w' := by
  obtain ⟨l0, rfl⟩ : ∃ s : List UInt8, a0 = ⟨s.toArray⟩ := ⟨a0.data.toList, by simp⟩
  have s0 : l0.length ≤ 140737488351232 := s0
  have hk1 : a1 ≤ 9223372036854775807 := by have h := w1; simp [Lit.wf] at h; exact h.2
  have hk2 : a2 ≤ 9223372036854775807 := by have h := w2; simp [Lit.wf] at h; exact h.2
  have HW2 := Lib.hid w2
  clear w0 w1 w2
  have hK : max a1 0 = (a1.toNat : Int) := by omega
  have HS0 := Lib.hid (St.nil w)
  have HB0 := Lib.hid (Below.refl w.heap.size w)
  go_enter Tryd.func8, Tryd.ntmps8
  go_wp2_with fail
  refine (nat_any l0 _ (by omega)).mono ?_
  rintro e w1 ⟨v, x, rfl, hv, hx, hb⟩
  obtain ⟨A1, n1, c1, rfl, hl⟩ := hv
  have HX := Lib.hid (tpow_blen hx)
  have HS1 := Lib.hid (HS0.out.step hb hl)
  have HB1 := Lib.hid ((keepb HB0.out hb).alloc (keepb HB0.out hb).size (.cells #[.slice A1 n1 c1] 42))
  clear hl hb hx
  have d0 := HS1.out.box 0 rfl
  have HSL := Lib.hid (shl_nat (.agg #[.slice A1 n1 c1]) x a1 _ (HS1.out.nat 0 rfl (Below.refl _ _)) (Nat.le_trans HX.out (by decide)) hk1)
  have hov : x ≠ 0 → blen (x * 2 ^ a1.toNat) = blen x + a1.toNat := fun h => blen_mul x _ h
  have hshr : x * 2 ^ a1.toNat / 2 ^ a1.toNat = x := Nat.mul_div_cancel _ (Nat.pow_pos (by omega))
  have hlost : decide (x * 2 ^ a1.toNat % 2 ^ a1.toNat ≠ 0) = false := by rw [Nat.mul_mod_left]; rfl
  have hbx : blen x ≤ 3600 := HX.out
  have HALONG := Lib.hid (fun q : Nat => bit_along x q a1.toNat)
  have hx0 : x = 0 → x * 2 ^ a1.toNat = 0 := fun h => by rw [h, Nat.zero_mul]
  have HSH := Lib.hid (fun W v (hv : NatW W v (x * 2 ^ a1.toNat)) (hb : blen (x * 2 ^ a1.toNat) ≤ 1000000) => nshr_nat v (x * 2 ^ a1.toNat) a1 W hv hb hk1)
  have hup : 0 < x → 0 < x * 2 ^ a1.toNat := fun h => Nat.mul_pos h (Nat.pow_pos (by omega))
  obtain ⟨u, hu⟩ : ∃ u, u = x * 2 ^ a1.toNat := ⟨_, rfl⟩
  unfold ShrP at HSH
  rw [← hu] at HSL hov hshr hlost HALONG hx0 HSH hup
  simp only [hlost, hshr] at HSH
  clear hu hshr hlost
  generalize a1.toNat = K at *
  go_wp2_with fail
  refine HSL.out.mono ?_
  rintro e w2 h
  clear d0
  by_cases hbu : blen u ≤ 8192
  · unfold NatB at h
    rw [if_pos hbu] at h
    obtain ⟨v2, rfl, ⟨A2, n2, c2, rfl, hl⟩, hb⟩ := h
    have HS2 := Lib.hid (HS1.out.step hb hl)
    have HB2 := Lib.hid ((keepb HB1.out hb).alloc (keepb HB1.out hb).size (.cells #[.slice A2 n2 c2] 42))
    have HLN := Lib.hid (fun W v (hv : NatW W v x) => len_nat v x W hv (Nat.le_trans HX.out (by decide)))
    have HLU := Lib.hid (fun W v (hv : NatW W v u) => len_nat v u W hv (Nat.le_trans hbu (by decide)))
    have HBU := Lib.hid hbu
    have HSM := Lib.hid (fun W v v' (hv : NatW W v x) (hv' : NatW W v' x) => same_yes v v' x W hv hv' (Nat.le_trans HX.out (by decide)))
    have HBN := Lib.hid (fun W v (hv : NatW W v x) => bit_nat v x a2 W hv HW2.out)
    have HBM := Lib.hid (fun W v (hv : NatW W v x) => bit_nat v x (-1) W hv rfl)
    have HBT : Go.RowKit.Hid (∀ W v (hv : NatW W v u), x ≠ 0 → Calls Tryd.prog 43 #[v, .int .i64 (((blen u : Nat) : Int) - 1)] W fun e w' => e = .returned (.bool true) ∧ Below W.heap.size W w') := Lib.hid (fun W v hv h0 => by
      have hp := blen_pos (show u ≠ 0 by have := hup (by omega); omega)
      have e : (((blen u : Nat) : Int) - 1) = ((blen u - 1 : Nat) : Int) := by omega
      have h := bit_nat v u (((blen u : Nat) : Int) - 1) W hv (by rw [e]; exact wf_nat _ (by omega))
      rw [e, bit_top (hup (by omega)), ← e] at h
      exact h)
    have HBA := Lib.hid (fun W v (hv : NatW W v u) => bit_nat v u ((blen u : Nat) : Int) W hv (wf_nat _ (by omega)))
    have HBQ := Lib.hid (fun W v (hv : NatW W v u) (q : Nat) (hq : q ≤ 8192) (hk : K ≤ 8192) => bit_nat v u ((q : Int) + (K : Int)) W hv (by rw [show ((q : Int) + (K : Int)) = ((q + K : Nat) : Int) by omega]; exact wf_nat _ (by omega)))
    rw [bit_above] at HBA
    rw [bit_below] at HBM
    clear hl hb
    have c0 := HS2.out.box 0 rfl
    have c1' := HS2.out.box 1 rfl
    have hcases : (x = 0 ∧ decide ((0 : Int) < ((blen x : Nat) : Int)) = false ∧ decide (0 < blen x) = false) ∨ (x ≠ 0 ∧ decide ((0 : Int) < ((blen x : Nat) : Int)) = true ∧ decide (0 < blen x) = true ∧ decide (8192 - ((blen x : Nat) : Int) < (K : Int)) = false ∧ (((blen u : Nat) : Int) != ((blen x : Nat) : Int) + (K : Int)) = false ∧ 0 < blen u ∧ K ≤ 8192) := by
      by_cases hxz : x = 0
      · left; subst hxz; exact ⟨rfl, rfl, rfl⟩
      · right
        have h1 := blen_pos hxz
        have h2 := hov hxz
        exact ⟨hxz, by simp; omega, by simp; omega, by simp; omega, by simp; omega, by omega, by omega⟩
    clear hov hx0 hup
    have hbu' : blen u ≤ 8192 := hbu
    clear hbu
    generalize blen x = bx at *
    generalize blen u = bu at *
    rcases hcases with ⟨hxz, t0, t0'⟩ | ⟨hxz, t0, t0', t1, t2, t3, t4⟩
    · have HXZ := Lib.hid hxz
      clear hxz
      go_wp2_with fail
      refine (HLN.out _ _ (HS2.out.nat 1 rfl (Below.refl _ _))).mono ?_
      rintro e w3 ⟨rfl, hb⟩
      have HS3 := Lib.hid (HS2.out.below hb)
      have HB3 := Lib.hid (keepb HB2.out hb)
      clear hb c0 c1'
      have c0 := HS3.out.box 0 rfl
      have c1' := HS3.out.box 1 rfl
      go_wp2_with fail
      refine (HSH.out _ _ (HS3.out.nat 0 rfl (Below.refl _ _)) (Nat.le_trans HBU.out (by decide))).mono ?_
      rintro e w4 ⟨A4, n4, c4, rfl, hl, hb⟩
      have HS4 := Lib.hid (HS3.out.step hb hl)
      have HB4 := Lib.hid ((keepb HB3.out hb).alloc (keepb HB3.out hb).size (.cells #[.slice A4 n4 c4] 42))
      clear hb hl c0 c1'
      have c0 := HS4.out.box 0 rfl
      have c1' := HS4.out.box 1 rfl
      have c2' := HS4.out.box 2 rfl
      go_wp2_with fail
      refine (HSM.out _ _ _ (HS4.out.nat 0 rfl (Below.refl _ _)) (HS4.out.nat 2 rfl (Below.refl _ _))).mono ?_
      rintro e w5 ⟨rfl, hb⟩
      have HS5 := Lib.hid (HS4.out.below hb)
      have HB5 := Lib.hid (keepb HB4.out hb)
      clear hb c0 c1' c2'
      have c1' := HS5.out.box 1 rfl
      have c2' := HS5.out.box 2 rfl
      go_wp2_with fail
      have hz1 : w1.heap.size < w5.heap.size := (HS5.out _ (List.mem_of_getElem? (show _ = some _ from (rfl : ([(w4.heap.size, A4, n4, c4, x), (w2.heap.size, A2, n2, c2, u), (w1.heap.size, A1, n1, c1, x)] : List Bx)[2]? = _)))).2.1
      have hz2 : w2.heap.size < w5.heap.size := (HS5.out _ (List.mem_of_getElem? (show _ = some _ from (rfl : ([(w4.heap.size, A4, n4, c4, x), (w2.heap.size, A2, n2, c2, u), (w1.heap.size, A1, n1, c1, x)] : List Bx)[1]? = _)))).2.1
      have hbr : Below w5.heap.size w5 w5 := Below.refl _ _
      obtain ⟨S, SD5⟩ : ∃ S : World → Prop, Go.RowKit.Hid (∀ w' : World, S w' ↔ (w'.cell? ⟨w1.heap.size, 0, none⟩ = some (.slice A1 n1 c1) ∧ w'.cell? ⟨w2.heap.size, 0, none⟩ = some (.slice A2 n2 c2) ∧ Below w5.heap.size w5 w')) := ⟨_, Lib.hid (fun _ => Iff.rfl)⟩
      refine wp_region_sure (S := S) (by kernel_rfl) (by kernel_rfl) ((SD5.out _).2 (s_drew c2' c1' hbr)) ?_
      repeat
        (first
          | (refine SureL.no (by rfl) ?_; simp only [Act.put, List.setIfInBounds_toArray, List.set_cons_zero, List.set_cons_succ])
          | (refine' SureL.yes (by rfl) (fun wS hS => ?_) ?_
             rotate_left
             · have hS' := (SD5.out _).1 hS
               obtain ⟨hS1, hS2, hBS⟩ := hS'
               go_simp
               first
                 | exact ⟨rfl, hS⟩
                 | (go_at_call_of 41 (Value.agg #[Value.slice A1 n1 c1]); refine (HLN.out _ _ (HS5.out.nat 2 rfl hBS)).mono ?_; rintro e w' ⟨rfl, hbn⟩; exact ⟨rfl, (SD5.out _).2 (s_call hS1 hS2 hBS hz1 hz2 hbn)⟩)
             simp only [Act.put, List.setIfInBounds_toArray, List.set_cons_zero, List.set_cons_succ]))
      refine SureL.nil ?_
      intro wE hE
      obtain ⟨hS1, hS2, hbw⟩ := (SD5.out _).1 hE
      have HS6 := Lib.hid (HS5.out.below hbw)
      have HB6 := Lib.hid (keepb HB5.out hbw)
      have hz1 : w1.heap.size < wE.heap.size := Nat.lt_of_lt_of_le hz1 hbw.size
      have hz2 : w2.heap.size < wE.heap.size := Nat.lt_of_lt_of_le hz2 hbw.size
      clear hbw hE SD5 hbr c1' c2' S
      have hbr : Below wE.heap.size wE wE := Below.refl _ _
      have hguard : (decide (0 ≤ a2) = false) ∨ (decide (0 ≤ a2) = true ∧ decide (a2 ≤ 8192) = false) ∨ (decide (0 ≤ a2) = true ∧ decide (a2 ≤ 8192) = true ∧ decide ((K : Int) ≤ 8192) = false ∧ decide (K ≤ 8192) = false) ∨ (∃ q : Nat, a2 = q ∧ q ≤ 8192 ∧ K ≤ 8192) := by
        by_cases h1 : 0 ≤ a2
        · by_cases h2 : a2 ≤ 8192
          · by_cases h3 : K ≤ 8192
            · right; right; right; exact ⟨a2.toNat, by omega, by omega, h3⟩
            · right; right; left; exact ⟨by simpa using h1, by simpa using h2, by simp; omega, by simpa using h3⟩
          · right; left; exact ⟨by simpa using h1, by simpa using h2⟩
        · left; simpa using h1
      clear hK
      rcases hguard with g1 | ⟨g1, g2⟩ | ⟨g1, g2, g3, g3'⟩ | ⟨q, rfl, hq, hk8⟩
      case inr.inr.inr =>
        have g1 : decide ((0 : Int) ≤ q) = true := by simp
        have g2 : decide ((q : Int) ≤ 8192) = true := by simp; omega
        have g2' : decide (q ≤ 8192) = true := by simp; omega
        have g3 : decide ((K : Int) ≤ 8192) = true := by simp; omega
        have g3' : decide (K ≤ 8192) = true := by simp; omega
        have hsum : IntKind.i64.wrap ((q : Int) + (K : Int)) = (q : Int) + (K : Int) := IntWalk.i64_in _ (by omega)
        have HQ := Lib.hid (fun W v hv => HBQ.out W v hv q hq hk8)
        rw [HALONG.out q] at HQ
        clear hq hk8 HBQ
        generalize bitV x q = bb at *
        have hbb : (bb != bb) = false := by cases bb <;> rfl
        go_wp2_with fail
        obtain ⟨S, SD6⟩ : ∃ S : World → Prop, Go.RowKit.Hid (∀ w' : World, S w' ↔ (w'.cell? ⟨w1.heap.size, 0, none⟩ = some (.slice A1 n1 c1) ∧ w'.cell? ⟨w2.heap.size, 0, none⟩ = some (.slice A2 n2 c2) ∧ Below wE.heap.size wE w')) := ⟨_, Lib.hid (fun _ => Iff.rfl)⟩
        refine wp_region_sure (S := S) (by kernel_rfl) (by kernel_rfl) ((SD6.out _).2 (s_drew hS1 hS2 hbr)) ?_
        repeat
          (first
            | (refine SureL.no (by rfl) ?_; simp only [Act.put, List.setIfInBounds_toArray, List.set_cons_zero, List.set_cons_succ])
            | (refine' SureL.yes (by rfl) (fun wS hS => ?_) ?_
               rotate_left
               · have hS' := (SD6.out _).1 hS
                 obtain ⟨hS1, hS2, hBS⟩ := hS'
                 go_simp
                 first
                   | exact ⟨rfl, hS⟩
                   | (go_at_call_of 43 (Value.agg #[Value.slice A1 n1 c1]); refine (HBN.out _ _ (HS6.out.nat 2 rfl hBS)).mono ?_; rintro e w' ⟨rfl, hbn⟩; exact ⟨rfl, (SD6.out _).2 (s_call hS1 hS2 hBS hz1 hz2 hbn)⟩)
                   | (go_at_call_of 43 (Value.agg #[Value.slice A2 n2 c2]); refine (HQ.out _ _ (HS6.out.nat 1 rfl hBS)).mono ?_; rintro e w' ⟨rfl, hbn⟩; exact ⟨rfl, (SD6.out _).2 (s_call hS1 hS2 hBS hz1 hz2 hbn)⟩)
               simp only [Act.put, List.setIfInBounds_toArray, List.set_cons_zero, List.set_cons_succ]))
        refine SureL.nil ?_
        intro wF hE
        obtain ⟨hS1, hS2, hbw⟩ := (SD6.out _).1 hE
        have HS7 := Lib.hid (HS6.out.below hbw)
        have HB7 := Lib.hid (keepb HB6.out hbw)
        clear hbw hE SD6 hbr S
        go_wp2_with fail
        refine (HBM.out _ _ (HS7.out.nat 2 rfl (Below.refl _ _))).mono ?_
        rintro e w9 ⟨rfl, hb⟩
        have HB9 := Lib.hid (keepb HB7.out hb)
        clear hb
        go_wp2_with fail
        refine (wakes_yes _).mono ?_
        rintro e w10 ⟨rfl, hb⟩
        have HBE := Lib.hid (keepb HB9.out hb)
        clear hb
        go_wp2_with fail
        go_ret
        exact ⟨rfl, HBE.out⟩
      case inl =>
        generalize bitV x a2 = bb at *
        go_wp2_with fail
        obtain ⟨S, SD6⟩ : ∃ S : World → Prop, Go.RowKit.Hid (∀ w' : World, S w' ↔ (w'.cell? ⟨w1.heap.size, 0, none⟩ = some (.slice A1 n1 c1) ∧ w'.cell? ⟨w2.heap.size, 0, none⟩ = some (.slice A2 n2 c2) ∧ Below wE.heap.size wE w')) := ⟨_, Lib.hid (fun _ => Iff.rfl)⟩
        refine wp_region_sure (S := S) (by kernel_rfl) (by kernel_rfl) ((SD6.out _).2 (s_drew hS1 hS2 hbr)) ?_
        repeat
          (first
            | (refine SureL.no (by rfl) ?_; simp only [Act.put, List.setIfInBounds_toArray, List.set_cons_zero, List.set_cons_succ])
            | (refine' SureL.yes (by rfl) (fun wS hS => ?_) ?_
               rotate_left
               · have hS' := (SD6.out _).1 hS
                 obtain ⟨hS1, hS2, hBS⟩ := hS'
                 go_simp
                 first
                   | exact ⟨rfl, hS⟩
               simp only [Act.put, List.setIfInBounds_toArray, List.set_cons_zero, List.set_cons_succ]))
        refine SureL.nil ?_
        intro wF hE
        obtain ⟨hS1, hS2, hbw⟩ := (SD6.out _).1 hE
        have HS7 := Lib.hid (HS6.out.below hbw)
        have HB7 := Lib.hid (keepb HB6.out hbw)
        clear hbw hE SD6 hbr S
        go_wp2_with fail
        refine (HBM.out _ _ (HS7.out.nat 2 rfl (Below.refl _ _))).mono ?_
        rintro e w9 ⟨rfl, hb⟩
        have HB9 := Lib.hid (keepb HB7.out hb)
        clear hb
        go_wp2_with fail
        refine (wakes_yes _).mono ?_
        rintro e w10 ⟨rfl, hb⟩
        have HBE := Lib.hid (keepb HB9.out hb)
        clear hb
        go_wp2_with fail
        go_ret
        exact ⟨rfl, HBE.out⟩
      case inr.inl =>
        generalize bitV x a2 = bb at *
        go_wp2_with fail
        obtain ⟨S, SD6⟩ : ∃ S : World → Prop, Go.RowKit.Hid (∀ w' : World, S w' ↔ (w'.cell? ⟨w1.heap.size, 0, none⟩ = some (.slice A1 n1 c1) ∧ w'.cell? ⟨w2.heap.size, 0, none⟩ = some (.slice A2 n2 c2) ∧ Below wE.heap.size wE w')) := ⟨_, Lib.hid (fun _ => Iff.rfl)⟩
        refine wp_region_sure (S := S) (by kernel_rfl) (by kernel_rfl) ((SD6.out _).2 (s_drew hS1 hS2 hbr)) ?_
        repeat
          (first
            | (refine SureL.no (by rfl) ?_; simp only [Act.put, List.setIfInBounds_toArray, List.set_cons_zero, List.set_cons_succ])
            | (refine' SureL.yes (by rfl) (fun wS hS => ?_) ?_
               rotate_left
               · have hS' := (SD6.out _).1 hS
                 obtain ⟨hS1, hS2, hBS⟩ := hS'
                 go_simp
                 first
                   | exact ⟨rfl, hS⟩
               simp only [Act.put, List.setIfInBounds_toArray, List.set_cons_zero, List.set_cons_succ]))
        refine SureL.nil ?_
        intro wF hE
        obtain ⟨hS1, hS2, hbw⟩ := (SD6.out _).1 hE
        have HS7 := Lib.hid (HS6.out.below hbw)
        have HB7 := Lib.hid (keepb HB6.out hbw)
        clear hbw hE SD6 hbr S
        go_wp2_with fail
        refine (HBM.out _ _ (HS7.out.nat 2 rfl (Below.refl _ _))).mono ?_
        rintro e w9 ⟨rfl, hb⟩
        have HB9 := Lib.hid (keepb HB7.out hb)
        clear hb
        go_wp2_with fail
        refine (wakes_yes _).mono ?_
        rintro e w10 ⟨rfl, hb⟩
        have HBE := Lib.hid (keepb HB9.out hb)
        clear hb
        go_wp2_with fail
        go_ret
        exact ⟨rfl, HBE.out⟩
      case inr.inr.inl =>
        generalize bitV x a2 = bb at *
        go_wp2_with fail
        obtain ⟨S, SD6⟩ : ∃ S : World → Prop, Go.RowKit.Hid (∀ w' : World, S w' ↔ (w'.cell? ⟨w1.heap.size, 0, none⟩ = some (.slice A1 n1 c1) ∧ w'.cell? ⟨w2.heap.size, 0, none⟩ = some (.slice A2 n2 c2) ∧ Below wE.heap.size wE w')) := ⟨_, Lib.hid (fun _ => Iff.rfl)⟩
        refine wp_region_sure (S := S) (by kernel_rfl) (by kernel_rfl) ((SD6.out _).2 (s_drew hS1 hS2 hbr)) ?_
        repeat
          (first
            | (refine SureL.no (by rfl) ?_; simp only [Act.put, List.setIfInBounds_toArray, List.set_cons_zero, List.set_cons_succ])
            | (refine' SureL.yes (by rfl) (fun wS hS => ?_) ?_
               rotate_left
               · have hS' := (SD6.out _).1 hS
                 obtain ⟨hS1, hS2, hBS⟩ := hS'
                 go_simp
                 first
                   | exact ⟨rfl, hS⟩
               simp only [Act.put, List.setIfInBounds_toArray, List.set_cons_zero, List.set_cons_succ]))
        refine SureL.nil ?_
        intro wF hE
        obtain ⟨hS1, hS2, hbw⟩ := (SD6.out _).1 hE
        have HS7 := Lib.hid (HS6.out.below hbw)
        have HB7 := Lib.hid (keepb HB6.out hbw)
        clear hbw hE SD6 hbr S
        go_wp2_with fail
        refine (HBM.out _ _ (HS7.out.nat 2 rfl (Below.refl _ _))).mono ?_
        rintro e w9 ⟨rfl, hb⟩
        have HB9 := Lib.hid (keepb HB7.out hb)
        clear hb
        go_wp2_with fail
        refine (wakes_yes _).mono ?_
        rintro e w10 ⟨rfl, hb⟩
        have HBE := Lib.hid (keepb HB9.out hb)
        clear hb
        go_wp2_with fail
        go_ret
        exact ⟨rfl, HBE.out⟩
    · have HXZ := Lib.hid hxz
      clear hxz
      go_wp2_with fail
      refine (HLN.out _ _ (HS2.out.nat 1 rfl (Below.refl _ _))).mono ?_
      rintro e w3 ⟨rfl, hb⟩
      have HS3 := Lib.hid (HS2.out.below hb)
      have HB3 := Lib.hid (keepb HB2.out hb)
      clear hb c0 c1'
      have c0 := HS3.out.box 0 rfl
      have c1' := HS3.out.box 1 rfl
      go_wp2_with fail
      refine (HLN.out _ _ (HS3.out.nat 1 rfl (Below.refl _ _))).mono ?_
      rintro e w3' ⟨rfl, hb⟩
      have HS3 := Lib.hid (HS3.out.below hb)
      have HB3 := Lib.hid (keepb HB3.out hb)
      clear hb c0 c1'
      have c0 := HS3.out.box 0 rfl
      have c1' := HS3.out.box 1 rfl
      go_wp2_with fail
      refine (HSH.out _ _ (HS3.out.nat 0 rfl (Below.refl _ _)) (Nat.le_trans HBU.out (by decide))).mono ?_
      rintro e w4 ⟨A4, n4, c4, rfl, hl, hb⟩
      have HS4 := Lib.hid (HS3.out.step hb hl)
      have HB4 := Lib.hid ((keepb HB3.out hb).alloc (keepb HB3.out hb).size (.cells #[.slice A4 n4 c4] 42))
      clear hb hl c0 c1'
      have c0 := HS4.out.box 0 rfl
      have c1' := HS4.out.box 1 rfl
      have c2' := HS4.out.box 2 rfl
      go_wp2_with fail
      refine (HSM.out _ _ _ (HS4.out.nat 0 rfl (Below.refl _ _)) (HS4.out.nat 2 rfl (Below.refl _ _))).mono ?_
      rintro e w5 ⟨rfl, hb⟩
      have HS5 := Lib.hid (HS4.out.below hb)
      have HB5 := Lib.hid (keepb HB4.out hb)
      clear hb c0 c1' c2'
      have c1' := HS5.out.box 1 rfl
      have c2' := HS5.out.box 2 rfl
      go_wp2_with fail
      have hz1 : w1.heap.size < w5.heap.size := (HS5.out _ (List.mem_of_getElem? (show _ = some _ from (rfl : ([(w4.heap.size, A4, n4, c4, x), (w2.heap.size, A2, n2, c2, u), (w1.heap.size, A1, n1, c1, x)] : List Bx)[2]? = _)))).2.1
      have hz2 : w2.heap.size < w5.heap.size := (HS5.out _ (List.mem_of_getElem? (show _ = some _ from (rfl : ([(w4.heap.size, A4, n4, c4, x), (w2.heap.size, A2, n2, c2, u), (w1.heap.size, A1, n1, c1, x)] : List Bx)[1]? = _)))).2.1
      have hbr : Below w5.heap.size w5 w5 := Below.refl _ _
      have e1 : IntKind.i64.wrap ((bx : Int) + (K : Int)) = (bx : Int) + (K : Int) := IntWalk.i64_in _ (by omega)
      have e2 : IntKind.i64.wrap ((bu : Int) - 1) = (bu : Int) - 1 := IntWalk.i64_in _ (by omega)
      obtain ⟨S, SD5⟩ : ∃ S : World → Prop, Go.RowKit.Hid (∀ w' : World, S w' ↔ (w'.cell? ⟨w1.heap.size, 0, none⟩ = some (.slice A1 n1 c1) ∧ w'.cell? ⟨w2.heap.size, 0, none⟩ = some (.slice A2 n2 c2) ∧ Below w5.heap.size w5 w')) := ⟨_, Lib.hid (fun _ => Iff.rfl)⟩
      refine wp_region_sure (S := S) (by kernel_rfl) (by kernel_rfl) ((SD5.out _).2 (s_drew c2' c1' hbr)) ?_
      repeat
        (first
          | (refine SureL.no (by rfl) ?_; simp only [Act.put, List.setIfInBounds_toArray, List.set_cons_zero, List.set_cons_succ])
          | (refine' SureL.yes (by rfl) (fun wS hS => ?_) ?_
             rotate_left
             · have hS' := (SD5.out _).1 hS
               obtain ⟨hS1, hS2, hBS⟩ := hS'
               go_simp
               first
                 | exact ⟨rfl, hS⟩
                 | (go_at_call_of 41 (Value.agg #[Value.slice A1 n1 c1]); refine (HLN.out _ _ (HS5.out.nat 2 rfl hBS)).mono ?_; rintro e w' ⟨rfl, hbn⟩; exact ⟨rfl, (SD5.out _).2 (s_call hS1 hS2 hBS hz1 hz2 hbn)⟩)
                 | (go_at_call_of 41 (Value.agg #[Value.slice A2 n2 c2]); refine (HLU.out _ _ (HS5.out.nat 1 rfl hBS)).mono ?_; rintro e w' ⟨rfl, hbn⟩; exact ⟨rfl, (SD5.out _).2 (s_call hS1 hS2 hBS hz1 hz2 hbn)⟩)
                 | (go_at_call_of 43 (Value.int IntKind.i64 (bu : Int)); refine (HBA.out _ _ (HS5.out.nat 1 rfl hBS)).mono ?_; rintro e w' ⟨rfl, hbn⟩; exact ⟨rfl, (SD5.out _).2 (s_call hS1 hS2 hBS hz1 hz2 hbn)⟩)
                 | (go_at_call_of 43 (Value.agg #[Value.slice A2 n2 c2]); refine (HBT.out _ _ (HS5.out.nat 1 rfl hBS) HXZ.out).mono ?_; rintro e w' ⟨rfl, hbn⟩; exact ⟨rfl, (SD5.out _).2 (s_call hS1 hS2 hBS hz1 hz2 hbn)⟩)
             simp only [Act.put, List.setIfInBounds_toArray, List.set_cons_zero, List.set_cons_succ]))
      refine SureL.nil ?_
      intro wE hE
      obtain ⟨hS1, hS2, hbw⟩ := (SD5.out _).1 hE
      have HS6 := Lib.hid (HS5.out.below hbw)
      have HB6 := Lib.hid (keepb HB5.out hbw)
      have hz1 : w1.heap.size < wE.heap.size := Nat.lt_of_lt_of_le hz1 hbw.size
      have hz2 : w2.heap.size < wE.heap.size := Nat.lt_of_lt_of_le hz2 hbw.size
      clear hbw hE SD5 hbr c1' c2' S e1 e2 t2
      have hbr : Below wE.heap.size wE wE := Below.refl _ _
      have hguard : (decide (0 ≤ a2) = false) ∨ (decide (0 ≤ a2) = true ∧ decide (a2 ≤ 8192) = false) ∨ (decide (0 ≤ a2) = true ∧ decide (a2 ≤ 8192) = true ∧ decide ((K : Int) ≤ 8192) = false ∧ decide (K ≤ 8192) = false) ∨ (∃ q : Nat, a2 = q ∧ q ≤ 8192 ∧ K ≤ 8192) := by
        by_cases h1 : 0 ≤ a2
        · by_cases h2 : a2 ≤ 8192
          · by_cases h3 : K ≤ 8192
            · right; right; right; exact ⟨a2.toNat, by omega, by omega, h3⟩
            · right; right; left; exact ⟨by simpa using h1, by simpa using h2, by simp; omega, by simpa using h3⟩
          · right; left; exact ⟨by simpa using h1, by simpa using h2⟩
        · left; simpa using h1
      clear hK
      rcases hguard with g1 | ⟨g1, g2⟩ | ⟨g1, g2, g3, g3'⟩ | ⟨q, rfl, hq, hk8⟩
      case inr.inr.inr =>
        have g1 : decide ((0 : Int) ≤ q) = true := by simp
        have g2 : decide ((q : Int) ≤ 8192) = true := by simp; omega
        have g2' : decide (q ≤ 8192) = true := by simp; omega
        have g3 : decide ((K : Int) ≤ 8192) = true := by simp; omega
        have g3' : decide (K ≤ 8192) = true := by simp; omega
        have hsum : IntKind.i64.wrap ((q : Int) + (K : Int)) = (q : Int) + (K : Int) := IntWalk.i64_in _ (by omega)
        have HQ := Lib.hid (fun W v hv => HBQ.out W v hv q hq hk8)
        rw [HALONG.out q] at HQ
        clear hq hk8 HBQ
        generalize bitV x q = bb at *
        have hbb : (bb != bb) = false := by cases bb <;> rfl
        go_wp2_with fail
        obtain ⟨S, SD6⟩ : ∃ S : World → Prop, Go.RowKit.Hid (∀ w' : World, S w' ↔ (w'.cell? ⟨w1.heap.size, 0, none⟩ = some (.slice A1 n1 c1) ∧ w'.cell? ⟨w2.heap.size, 0, none⟩ = some (.slice A2 n2 c2) ∧ Below wE.heap.size wE w')) := ⟨_, Lib.hid (fun _ => Iff.rfl)⟩
        refine wp_region_sure (S := S) (by kernel_rfl) (by kernel_rfl) ((SD6.out _).2 (s_drew hS1 hS2 hbr)) ?_
        repeat
          (first
            | (refine SureL.no (by rfl) ?_; simp only [Act.put, List.setIfInBounds_toArray, List.set_cons_zero, List.set_cons_succ])
            | (refine' SureL.yes (by rfl) (fun wS hS => ?_) ?_
               rotate_left
               · have hS' := (SD6.out _).1 hS
                 obtain ⟨hS1, hS2, hBS⟩ := hS'
                 go_simp
                 first
                   | exact ⟨rfl, hS⟩
                   | (go_at_call_of 43 (Value.agg #[Value.slice A1 n1 c1]); refine (HBN.out _ _ (HS6.out.nat 2 rfl hBS)).mono ?_; rintro e w' ⟨rfl, hbn⟩; exact ⟨rfl, (SD6.out _).2 (s_call hS1 hS2 hBS hz1 hz2 hbn)⟩)
                   | (go_at_call_of 43 (Value.agg #[Value.slice A2 n2 c2]); refine (HQ.out _ _ (HS6.out.nat 1 rfl hBS)).mono ?_; rintro e w' ⟨rfl, hbn⟩; exact ⟨rfl, (SD6.out _).2 (s_call hS1 hS2 hBS hz1 hz2 hbn)⟩)
               simp only [Act.put, List.setIfInBounds_toArray, List.set_cons_zero, List.set_cons_succ]))
        refine SureL.nil ?_
        intro wF hE
        obtain ⟨hS1, hS2, hbw⟩ := (SD6.out _).1 hE
        have HS7 := Lib.hid (HS6.out.below hbw)
        have HB7 := Lib.hid (keepb HB6.out hbw)
        clear hbw hE SD6 hbr S
        go_wp2_with fail
        refine (HBM.out _ _ (HS7.out.nat 2 rfl (Below.refl _ _))).mono ?_
        rintro e w9 ⟨rfl, hb⟩
        have HB9 := Lib.hid (keepb HB7.out hb)
        clear hb
        go_wp2_with fail
        refine (wakes_yes _).mono ?_
        rintro e w10 ⟨rfl, hb⟩
        have HBE := Lib.hid (keepb HB9.out hb)
        clear hb
        go_wp2_with fail
        go_ret
        exact ⟨rfl, HBE.out⟩
      case inl =>
        generalize bitV x a2 = bb at *
        go_wp2_with fail
        obtain ⟨S, SD6⟩ : ∃ S : World → Prop, Go.RowKit.Hid (∀ w' : World, S w' ↔ (w'.cell? ⟨w1.heap.size, 0, none⟩ = some (.slice A1 n1 c1) ∧ w'.cell? ⟨w2.heap.size, 0, none⟩ = some (.slice A2 n2 c2) ∧ Below wE.heap.size wE w')) := ⟨_, Lib.hid (fun _ => Iff.rfl)⟩
        refine wp_region_sure (S := S) (by kernel_rfl) (by kernel_rfl) ((SD6.out _).2 (s_drew hS1 hS2 hbr)) ?_
        repeat
          (first
            | (refine SureL.no (by rfl) ?_; simp only [Act.put, List.setIfInBounds_toArray, List.set_cons_zero, List.set_cons_succ])
            | (refine' SureL.yes (by rfl) (fun wS hS => ?_) ?_
               rotate_left
               · have hS' := (SD6.out _).1 hS
                 obtain ⟨hS1, hS2, hBS⟩ := hS'
                 go_simp
                 first
                   | exact ⟨rfl, hS⟩
               simp only [Act.put, List.setIfInBounds_toArray, List.set_cons_zero, List.set_cons_succ]))
        refine SureL.nil ?_
        intro wF hE
        obtain ⟨hS1, hS2, hbw⟩ := (SD6.out _).1 hE
        have HS7 := Lib.hid (HS6.out.below hbw)
        have HB7 := Lib.hid (keepb HB6.out hbw)
        clear hbw hE SD6 hbr S
        go_wp2_with fail
        refine (HBM.out _ _ (HS7.out.nat 2 rfl (Below.refl _ _))).mono ?_
        rintro e w9 ⟨rfl, hb⟩
        have HB9 := Lib.hid (keepb HB7.out hb)
        clear hb
        go_wp2_with fail
        refine (wakes_yes _).mono ?_
        rintro e w10 ⟨rfl, hb⟩
        have HBE := Lib.hid (keepb HB9.out hb)
        clear hb
        go_wp2_with fail
        go_ret
        exact ⟨rfl, HBE.out⟩
      case inr.inl =>
        generalize bitV x a2 = bb at *
        go_wp2_with fail
        obtain ⟨S, SD6⟩ : ∃ S : World → Prop, Go.RowKit.Hid (∀ w' : World, S w' ↔ (w'.cell? ⟨w1.heap.size, 0, none⟩ = some (.slice A1 n1 c1) ∧ w'.cell? ⟨w2.heap.size, 0, none⟩ = some (.slice A2 n2 c2) ∧ Below wE.heap.size wE w')) := ⟨_, Lib.hid (fun _ => Iff.rfl)⟩
        refine wp_region_sure (S := S) (by kernel_rfl) (by kernel_rfl) ((SD6.out _).2 (s_drew hS1 hS2 hbr)) ?_
        repeat
          (first
            | (refine SureL.no (by rfl) ?_; simp only [Act.put, List.setIfInBounds_toArray, List.set_cons_zero, List.set_cons_succ])
            | (refine' SureL.yes (by rfl) (fun wS hS => ?_) ?_
               rotate_left
               · have hS' := (SD6.out _).1 hS
                 obtain ⟨hS1, hS2, hBS⟩ := hS'
                 go_simp
                 first
                   | exact ⟨rfl, hS⟩
               simp only [Act.put, List.setIfInBounds_toArray, List.set_cons_zero, List.set_cons_succ]))
        refine SureL.nil ?_
        intro wF hE
        obtain ⟨hS1, hS2, hbw⟩ := (SD6.out _).1 hE
        have HS7 := Lib.hid (HS6.out.below hbw)
        have HB7 := Lib.hid (keepb HB6.out hbw)
        clear hbw hE SD6 hbr S
        go_wp2_with fail
        refine (HBM.out _ _ (HS7.out.nat 2 rfl (Below.refl _ _))).mono ?_
        rintro e w9 ⟨rfl, hb⟩
        have HB9 := Lib.hid (keepb HB7.out hb)
        clear hb
        go_wp2_with fail
        refine (wakes_yes _).mono ?_
        rintro e w10 ⟨rfl, hb⟩
        have HBE := Lib.hid (keepb HB9.out hb)
        clear hb
        go_wp2_with fail
        go_ret
        exact ⟨rfl, HBE.out⟩
      case inr.inr.inl =>
        generalize bitV x a2 = bb at *
        go_wp2_with fail
        obtain ⟨S, SD6⟩ : ∃ S : World → Prop, Go.RowKit.Hid (∀ w' : World, S w' ↔ (w'.cell? ⟨w1.heap.size, 0, none⟩ = some (.slice A1 n1 c1) ∧ w'.cell? ⟨w2.heap.size, 0, none⟩ = some (.slice A2 n2 c2) ∧ Below wE.heap.size wE w')) := ⟨_, Lib.hid (fun _ => Iff.rfl)⟩
        refine wp_region_sure (S := S) (by kernel_rfl) (by kernel_rfl) ((SD6.out _).2 (s_drew hS1 hS2 hbr)) ?_
        repeat
          (first
            | (refine SureL.no (by rfl) ?_; simp only [Act.put, List.setIfInBounds_toArray, List.set_cons_zero, List.set_cons_succ])
            | (refine' SureL.yes (by rfl) (fun wS hS => ?_) ?_
               rotate_left
               · have hS' := (SD6.out _).1 hS
                 obtain ⟨hS1, hS2, hBS⟩ := hS'
                 go_simp
                 first
                   | exact ⟨rfl, hS⟩
               simp only [Act.put, List.setIfInBounds_toArray, List.set_cons_zero, List.set_cons_succ]))
        refine SureL.nil ?_
        intro wF hE
        obtain ⟨hS1, hS2, hbw⟩ := (SD6.out _).1 hE
        have HS7 := Lib.hid (HS6.out.below hbw)
        have HB7 := Lib.hid (keepb HB6.out hbw)
        clear hbw hE SD6 hbr S
        go_wp2_with fail
        refine (HBM.out _ _ (HS7.out.nat 2 rfl (Below.refl _ _))).mono ?_
        rintro e w9 ⟨rfl, hb⟩
        have HB9 := Lib.hid (keepb HB7.out hb)
        clear hb
        go_wp2_with fail
        refine (wakes_yes _).mono ?_
        rintro e w10 ⟨rfl, hb⟩
        have HBE := Lib.hid (keepb HB9.out hb)
        clear hb
        go_wp2_with fail
        go_ret
        exact ⟨rfl, HBE.out⟩
  · unfold NatB at h
    rw [if_neg hbu] at h
    obtain ⟨rfl, hb⟩ := h
    have hxp : x ≠ 0 := fun h0 => hbu (by rw [hx0 h0]; decide)
    have hbb := hov hxp
    have hbp := blen_pos hxp
    have t0 : decide ((0 : Int) < ((blen x : Nat) : Int)) = true := by simp; omega
    have t0' : decide (0 < blen x) = true := by simp; omega
    have t1 : decide (8192 - ((blen x : Nat) : Int) < (K : Int)) = true := by simp; omega
    have hl : NatL w2 none 0 0 0 := ⟨[], IsF.nil _, rfl, RT.nil _ _, Nat.le_refl _⟩
    have HS2 := Lib.hid (HS1.out.step hb hl)
    have HB2 := Lib.hid ((keepb HB1.out hb).alloc (keepb HB1.out hb).size (.cells #[.slice none 0 0] 42))
    have HLN := Lib.hid (fun W v (hv : NatW W v x) => len_nat v x W hv (Nat.le_trans HX.out (by decide)))
    clear hl hb hov hx0 hbu hxp hbb hbp HSH hup
    have c0 := HS2.out.box 0 rfl
    have c1' := HS2.out.box 1 rfl
    generalize blen x = bx at *
    go_wp2_with fail
    refine (HLN.out _ _ (HS2.out.nat 1 rfl (Below.refl _ _))).mono ?_
    rintro e w3 ⟨rfl, hb⟩
    have HS3 := Lib.hid (HS2.out.below hb)
    have HB3 := Lib.hid (keepb HB2.out hb)
    clear hb c0 c1'
    have c0 := HS3.out.box 0 rfl
    have c1' := HS3.out.box 1 rfl
    go_wp2_with fail
    refine (HLN.out _ _ (HS3.out.nat 1 rfl (Below.refl _ _))).mono ?_
    rintro e w4 ⟨rfl, hb⟩
    have HS4 := Lib.hid (HS3.out.below hb)
    have HB4 := Lib.hid (keepb HB3.out hb)
    clear hb c0 c1'
    have c0 := HS4.out.box 0 rfl
    have c1' := HS4.out.box 1 rfl
    go_wp2_with fail
    refine (number_yes 11 _).mono ?_
    rintro e w5 ⟨rfl, rfl⟩
    go_wp2_with fail
    refine (len_zero _ _ (HS4.out.nat 0 rfl (Below.refl _ _))).mono ?_
    rintro e w5 ⟨rfl, hb⟩
    have HB5 := Lib.hid (keepb HB4.out hb)
    clear hb c0 c1'
    go_wp2_with fail
    refine (wakes_yes _).mono ?_
    rintro e w6 ⟨rfl, hb⟩
    have HBE := Lib.hid (keepb HB5.out hb)
    clear hb
    go_wp2_with fail
    go_ret
    exact ⟨rfl, HBE.out⟩
end Go.Proofs.YtnghcpgdfkchdaaDoor.wideShifts
