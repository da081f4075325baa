/- The document's natural numbers: a power. -/
import Derived.Test.YtgihkmofpncobaaDoorNRJ
namespace Go.Proofs.YtgihkmofpncobaaDoor
open Go.RowKit
set_option linter.unusedSimpArgs false
set_option linter.unusedVariables false

attribute [local go_sem] SGives_value SGives_skip SGives_enter CGives_value CGives_skip CGives_enter MGives_value MGives_skip MGives_enter
/-- What a power answers. -/
def PowP (y : Nat) (g : Bool) (w : World) (e : Ending) (w' : World) : Prop := ∃ A n c, e = .returned (.tuple #[.agg #[.slice A n c], .bool g]) ∧ RatL w' A n c y ∧ Below w.heap.size w w'
theorem RatL.nil (w : World) (c : Nat) : RatL w none 0 c 0 := ⟨[], IsF.nil _, rfl, RT.nil _ _, Nat.zero_le _⟩
def powV (b : Nat) (n : Int) (M : Nat) : Nat × Bool :=
  if n = 0 then (1, true) else if b < 2 then (b, true) else if 8192 < n then (0, false) else if n < 0 then (1, true) else if overB (b ^ n.toNat) M then (0, false) else (b ^ n.toNat, true)
theorem over_mono {x y M : Nat} (h : x ≤ y) (ho : overB x M = true) : overB y M = true := decide_eq_true (Nat.le_trans (of_decide_eq_true ho) h)
theorem powV_loop {b : Nat} {n : Int} {M : Nat} (h0 : n ≠ 0) (hb : ¬ b < 2) (hf : ¬ 8192 < n) (hM : M = 8192) : powV b n M = if overB (b ^ n.toNat) M then (0, false) else (b ^ n.toNat, true) := by
  unfold powV
  rw [if_neg h0, if_neg hb, if_neg hf]
  by_cases hn : n < 0
  · rw [if_pos hn, show n.toNat = 0 by omega, Nat.pow_zero]
    have : overB 1 M = false := decide_eq_false (by have : 2 ^ 1 ≤ 2 ^ M := Nat.pow_le_pow_right (by decide) (by omega); omega)
    rw [this]; rfl
  · rw [if_neg hn]
theorem pow_lt_y {b i M Y : Nat} (hb : b < W64) (ho : overB (b ^ i) M = false) (hM : M = 8192) (hY : Y = 10000) : b ^ i < B4 ^ Y ∧ b < B4 ^ Y ∧ b ^ i * b < B4 ^ Y := by
  have h1 : b ^ i < 2 ^ M := Nat.not_le.1 (of_decide_eq_false ho)
  obtain ⟨m, hm⟩ : ∃ m, m = 4096 := ⟨_, rfl⟩
  have h2 : 2 ^ M < B4 ^ m := two_lt (N := m) (by omega) (by omega) (Nat.le_refl _)
  have h3 : (2 : Nat) ^ 64 < B4 ^ 32 := two_lt (N := 32) (by omega) (by omega) (Nat.le_refl _)
  have h4 : b < B4 ^ 32 := Nat.lt_trans (by unfold W64 at hb; exact hb) h3
  have h5 : b ^ i * b < B4 ^ m * B4 ^ 32 := Nat.mul_lt_mul'' (Nat.lt_trans h1 h2) h4
  rw [← Nat.pow_add] at h5
  exact ⟨Nat.lt_of_lt_of_le (Nat.lt_trans h1 h2) (Nat.pow_le_pow_right (by decide) (by omega)), Nat.lt_of_lt_of_le h4 (Nat.pow_le_pow_right (by decide) (by omega)), Nat.lt_of_lt_of_le h5 (Nat.pow_le_pow_right (by decide) (by omega))⟩
set_option maxRecDepth 4000000 in
set_option maxHeartbeats 4000000 in
theorem rpower_core (b M Y : Nat) (n : Int) (w : World) (hb : b < W64) (hM : M = 8192) (hY : Y = 10000) :
    Calls Tryd.prog 17 #[wv b, .int .i64 n] w (PowP (powV b n M).1 (powV b n M).2 w) := by
  obtain ⟨W0, hW0⟩ : ∃ W0, w.alloc (.cells #[.slice none 0 0] 31) = W0 := ⟨_, rfl⟩
  have HA := Lib.hid (show Blk W0 w.heap.size 31 #[.slice none 0 0] by rw [← hW0]; exact Blk.new _ _ _)
  have HB0 := Lib.hid (show Below w.heap.size w W0 by rw [← hW0]; exact below_new _ _)
  have HOF := Lib.hid (fun x W (h : x < W64) => rof_nat x W h)
  have hb1 : (b : Int) ≤ 18446744073709551615 := by unfold W64 at hb; omega
  have HBW := Lib.hid hb
  clear hb
  have HO1 := Lib.hid (fun W => (show Calls Tryd.prog 15 #[.int .u64 1] W (RatV 1 W) from rof_nat 1 W (by decide)))
  by_cases hn0 : n = 0
  · have HV : Hid (powV b n M = (1, true)) := Lib.hid (by unfold powV; rw [if_pos hn0])
    rw [HV.out]
    subst hn0
    go_enter Tryd.func17, Tryd.ntmps17
    go_upto_if 9 with fail
    clear hW0
    go_wp2_with fail
    refine (HO1.out _).mono ?_
    rintro e w1 ⟨A1, n1, c1, rfl, hl, hb⟩
    have hk := HA.out.below hb HA.out.lt
    have HL := Lib.hid hl
    have HK := Lib.hid hk
    have HBB := Lib.hid (keepb HB0.out hb)
    have hp := hk.put (i := 0) (by simp) (.slice A1 n1 c1)
    have cf := hk.frozen 0
    have cc := hk.cell 0
    simp at cf cc
    clear hl hb hk
    go_wp2_with fail
    exact bodyPost_ret (v := .tuple #[.agg #[.slice A1 n1 c1], .bool true]) (by simp [results, Tryd.results17, go_sem, hp]) rfl ⟨_, _, _, rfl, HL.out.set HK.out (by decide) _, HBB.out.setCell (Nat.le_refl _) _⟩
  have n1 : (n == 0) = false := by simpa using hn0
  have n2 : (n = 0) = False := by simpa using hn0
  by_cases hb2 : b < 2
  · have HV : Hid (powV b n M = (b, true)) := Lib.hid (by unfold powV; rw [if_neg hn0, if_pos hb2])
    rw [HV.out]
    have t1 : decide ((b : Int) < 2) = true := decide_eq_true (by omega)
    have t1' : decide (b < 2) = true := decide_eq_true hb2
    clear hn0 hb2
    go_enter Tryd.func17, Tryd.ntmps17
    go_upto_if 9 with fail
    clear hW0
    go_wp2_with fail
    refine (HOF.out b _ HBW.out).mono ?_
    rintro e w1 ⟨A1, n1, c1, rfl, hl, hb⟩
    have hk := HA.out.below hb HA.out.lt
    have HL := Lib.hid hl
    have HK := Lib.hid hk
    have HBB := Lib.hid (keepb HB0.out hb)
    have hp := hk.put (i := 0) (by simp) (.slice A1 n1 c1)
    have cf := hk.frozen 0
    have cc := hk.cell 0
    simp at cf cc
    clear hl hb hk
    go_wp2_with fail
    exact bodyPost_ret (v := .tuple #[.agg #[.slice A1 n1 c1], .bool true]) (by simp [results, Tryd.results17, go_sem, hp]) rfl ⟨_, _, _, rfl, HL.out.set HK.out (by decide) _, HBB.out.setCell (Nat.le_refl _) _⟩
  have t1 : decide ((b : Int) < 2) = false := decide_eq_false (by omega)
  have t1' : decide (b < 2) = false := decide_eq_false hb2
  by_cases hf : 8192 < n
  · have HV : Hid (powV b n M = (0, false)) := Lib.hid (by unfold powV; rw [if_neg hn0, if_neg hb2, if_pos hf])
    rw [HV.out]
    have t2 : decide (8192 < n) = true := decide_eq_true hf
    clear hn0 hb2 hf
    have hp := HA.out.put (i := 0) (by simp) (.slice none 0 0)
    have cf := HA.out.frozen 0
    have cc := HA.out.cell 0
    simp at cf cc
    go_enter Tryd.func17, Tryd.ntmps17
    go_upto_if 9 with fail
    clear hW0
    go_wp2_with fail
    exact bodyPost_ret (v := .tuple #[.agg #[.slice none 0 0], .bool false]) (by simp [results, Tryd.results17, go_sem, hp]) rfl ⟨_, _, _, rfl, (RatL.nil _ 0).set HA.out (by decide) _, HB0.out.setCell (Nat.le_refl _) _⟩
  have t2 : decide (8192 < n) = false := decide_eq_false hf
  have HV := Lib.hid (powV_loop hn0 hb2 hf hM)
  have HL1 := Lib.hid (fun i (h : overB (b ^ i) M = false) => pow_lt_y HBW.out h hM hY)
  have HPR := Lib.hid (fun v u W i (h : overB (b ^ i) M = false) (h1 : RatW W v (b ^ i)) (h2 : RatW W u b) => rproduct_v (N := Y) hY v u (b ^ i) b W h1 h2 (HL1.out i h).1 (HL1.out i h).2.1)
  have HOV := Lib.hid (fun v W i (h : overB (b ^ i) M = false) (h1 : RatW W v (b ^ i * b)) => rover_nat v (b ^ i * b) Y M 1000000 W h1 (HL1.out i h).2.2 (by omega) hM rfl)
  have HO0 := Lib.hid (show overB (b ^ 0) M = false from decide_eq_false (by rw [Nat.pow_zero]; have : 2 ^ 1 ≤ 2 ^ M := Nat.pow_le_pow_right (by decide) (by omega); omega))
  have hnk : ∀ i : Nat, decide ((i : Int) < n) = decide (i < n.toNat) := fun i => by rw [decide_eq_decide]; omega
  have hnk2 : n.toNat ≤ 8192 := by omega
  obtain ⟨K, hK⟩ : ∃ K, n.toNat = K := ⟨_, rfl⟩
  rw [hK] at HV hnk2
  simp only [hK] at hnk
  have HNK := Lib.hid hnk
  have HK8 := Lib.hid hnk2
  clear hK hnk hnk2 hn0 hb2 hf hM hY
  go_enter Tryd.func17, Tryd.ntmps17
  go_upto_if 9 with fail
  clear hW0
  go_wp2_with fail
  refine (HO1.out _).mono ?_
  rintro e w1 ⟨A1, n1', c1, rfl, hl, hb⟩
  have HL := Lib.hid hl
  have HKA := Lib.hid (HA.out.below hb HA.out.lt)
  have HBB := Lib.hid (keepb HB0.out hb)
  have hszb := hb.size
  have HSZ := Lib.hid (show w.heap.size < w1.heap.size by have := HA.out.lt; omega)
  clear hl hb hszb
  go_wp2_with fail
  obtain ⟨g1, hg1⟩ : ∃ g, w1.heap.size = g := ⟨_, rfl⟩
  obtain ⟨W1, hW1⟩ : ∃ W, w1.alloc (.cells #[.slice A1 n1' c1] 31) = W := ⟨_, rfl⟩
  rw [hg1, hW1]
  have HB1 := Lib.hid (show Blk W1 g1 31 #[.slice A1 n1' c1] by rw [← hW1, ← hg1]; exact Blk.new w1 _ _)
  have HBW1 : Hid (Below w.heap.size w W1) := Lib.hid (by rw [← hW1]; exact HBB.out.trans ((Below.refl _ _).alloc HBB.out.size _))
  have HG1 : Hid (w.heap.size < g1) := Lib.hid (by rw [← hg1]; exact HSZ.out)
  have HK1 : Hid (Blk W1 w.heap.size 31 #[.slice none 0 0]) := Lib.hid (by rw [← hW1]; exact HKA.out.below (below_new _ _) HSZ.out)
  have HL1' : Hid (RatL W1 A1 n1' c1 1) := Lib.hid (by rw [← hW1]; exact HL.out.below (below_new _ _))
  clear hg1 hW1
  go_loopw [7] (fun s7 wr => ∃ (i : Nat) (A : Option Addr) (m c : Nat), s7 = .int .i64 i ∧ i ≤ K ∧ overB (b ^ i) M = false ∧ Blk wr g1 31 #[.slice A m c] ∧ RatL wr A m c (b ^ i) ∧ Blk wr w.heap.size 31 #[.slice none 0 0] ∧ Below w.heap.size w wr) (fun s _ => K - (intOf s).toNat)
  case atStart => exact ⟨0, A1, n1', c1, by go_num, Nat.zero_le _, HO0.out, HB1.out, by rw [Nat.pow_zero]; exact HL1'.out, HK1.out, HBW1.out⟩
  case round =>
    obtain ⟨i, A, m, c, rfl, hi, ho, hb1, hl, hb0, hbel⟩ := hrel
    have HI := Lib.hid hi
    have HOI := Lib.hid ho
    have HBX := Lib.hid hb1
    have HLX := Lib.hid hl
    have HBR := Lib.hid hb0
    have HBE := Lib.hid hbel
    have hcl := hb1.cell 0
    have HZ := Lib.hid hb1.lt
    simp at hcl
    clear hl hb0 hbel hb1 ho
    by_cases hlt : i < K
    · have hnk := HNK.out i
      have u1 : decide ((i : Int) < n) = true := by rw [hnk]; exact decide_eq_true hlt
      have HLT := Lib.hid hlt
      have hiI : (i : Int) ≤ 8192 := by have := HK8.out; omega
      have HP1 : Hid (∀ v u W, RatW W v (b ^ i) → RatW W u b → Calls Tryd.prog 29 #[v, u] W (RatV (b ^ (i + 1)) W)) := Lib.hid (fun v u W h1 h2 => by rw [Nat.pow_succ]; exact HPR.out v u W i HOI.out h1 h2)
      have HO1' : Hid (∀ v W, RatW W v (b ^ (i + 1)) → Calls Tryd.prog 24 #[v] W fun e w' => e = .returned (.bool (overB (b ^ (i + 1)) M)) ∧ Below W.heap.size W w') := Lib.hid (fun v W h => by rw [Nat.pow_succ] at h ⊢; exact HOV.out v W i HOI.out h)
      have HOFb : Hid (∀ W, Calls Tryd.prog 15 #[.int .u64 (b : Int)] W (RatV b W)) := Lib.hid (fun W => HOF.out b W HBW.out)
      have HOW : Hid (overB (b ^ (i + 1)) M = true → powV b n M = (0, false)) := Lib.hid (fun h => by
        rw [HV.out, if_pos (over_mono (Nat.pow_le_pow_right (Nat.pos_of_ne_zero (fun h0 => by have := t1'; rw [h0] at this; simp at this)) hlt) h)])
      clear hnk hlt hi
      go_upto_region 11 with fail
      go_region_with (first
        | (go_at_call 15; refine (HOFb.out _).mono ?_; rintro e wa ⟨A2, n2, c2, rfl, hl2, hb2⟩; have HLA := Lib.hid hl2; have HWA := Lib.hid (keepb (below_drewN (Below.refl _ _) 1) hb2); have hca := keepc HWA.out HZ.out hcl; clear hl2 hb2)
        | (go_at_call 29; refine (HP1.out _ _ _ (HLX.out.below HWA.out).w HLA.out.w).mono ?_; rintro e wb ⟨A3, n3, c3, rfl, hl3, hb3⟩; have HLB := Lib.hid hl3; have HWB := Lib.hid (keepb HWA.out hb3); have HBB := Lib.hid (HBX.out.below HWB.out HZ.out); have hcb := HBB.out.cell 0; have hfb := HBB.out.frozen 0; simp at hcb; clear hl3 hb3))
      all_goals
        have HB5 := Lib.hid (HBB.out.set1 0 (.slice A3 n3 c3))
        have HL5 := Lib.hid (HLB.out.set HBB.out (i := 0) (by decide) (.slice A3 n3 c3))
        have HK5 := Lib.hid ((HBR.out.below HWB.out HBR.out.lt).far (p := ⟨g1, 0, none⟩) (by have := HG1.out; simp; omega) (.slice A3 n3 c3))
        have HE5 := Lib.hid ((keepb HBE.out HWB.out).setCell (p := ⟨g1, 0, none⟩) (Nat.le_of_lt HG1.out) (.slice A3 n3 c3))
        obtain ⟨W5, hW5⟩ : ∃ W, wb.setCell ⟨g1, 0, none⟩ (.slice A3 n3 c3) = W := ⟨_, rfl⟩
        rw [hW5] at HB5 HL5 HK5 HE5 ⊢
        have hc5 := HB5.out.cell 0
        simp at hc5
        clear hcb hfb hW5
        by_cases hO : overB (b ^ (i + 1)) M = true
        · have HV' := Lib.hid (HOW.out hO)
          rw [hO] at HO1'
          clear hO
          go_wp2_with fail
          refine (HO1'.out _ _ HL5.out.w).mono ?_
          rintro e w6 ⟨rfl, hb6⟩
          have HB6 := Lib.hid hb6
          have HK6 := Lib.hid (HK5.out.below hb6 HK5.out.lt)
          have hp := HK6.out.put (i := 0) (by simp) (.slice none 0 0)
          have cf := HK6.out.frozen 0
          have cc := HK6.out.cell 0
          simp at cf cc
          clear hb6
          go_wp2_with fail
          rw [HV'.out]
          exact bodyPost_ret (v := .tuple #[.agg #[.slice none 0 0], .bool false]) (by simp [results, Tryd.results17, go_sem, hp]) rfl ⟨_, _, _, rfl, (RatL.nil _ 0).set HK6.out (by decide) _, (keepb HE5.out HB6.out).setCell (Nat.le_refl _) _⟩
        · have hO : overB (b ^ (i + 1)) M = false := by simpa using hO
          have HO7 := Lib.hid hO
          rw [hO] at HO1'
          clear hO
          go_wp2_with fail
          refine (HO1'.out _ _ HL5.out.w).mono ?_
          rintro e w6 ⟨rfl, hb6⟩
          have HB6 := Lib.hid hb6
          clear hb6
          go_wp2_with fail
          go_roundw
          case rel => exact ⟨i + 1, A3, n3, c3, by go_num, HLT.out, HO7.out, HB5.out.below HB6.out HB5.out.lt, HL5.out.below HB6.out, HK5.out.below HB6.out HK5.out.lt, keepb HE5.out HB6.out⟩
          case measure => have := HLT.out; simp [intOf]; omega
    · have hnk := HNK.out i
      have u1 : decide ((i : Int) < n) = false := by rw [hnk]; exact decide_eq_false hlt
      have hiK : i = K := by omega
      have HVV : Hid (powV b n M = (b ^ i, true)) := Lib.hid (by rw [HV.out, ← hiK, HOI.out]; rfl)
      have hp := HBR.out.put (i := 0) (by simp) (.slice A m c)
      have cf := HBR.out.frozen 0
      have cc := HBR.out.cell 0
      simp at cf cc
      clear hnk hlt hi hiK
      go_wp2_with fail
      rw [HVV.out]
      exact bodyPost_ret (v := .tuple #[.agg #[.slice A m c], .bool true]) (by simp [results, Tryd.results17, go_sem, hp]) rfl ⟨_, _, _, rfl, HLX.out.set HBR.out (by decide) _, HBE.out.setCell (Nat.le_refl _) _⟩
theorem rpower_nat (b M : Nat) (n : Int) (w : World) (hb : b < W64) (hM : M = 8192) :
    Calls Tryd.prog 17 #[wv b, .int .i64 n] w (PowP (powV b n M).1 (powV b n M).2 w) := rpower_core b M 10000 n w hb hM rfl
end Go.Proofs.YtgihkmofpncobaaDoor
