/- The contract of natural numbers' Power. -/
import Derived.Test.YtgihkmofpncobaaDoorNatO
namespace Go.Proofs.YtgihkmofpncobaaDoor
open Go.RowKit
set_option linter.unusedSimpArgs false
set_option linter.unusedVariables false

theorem NatB.over {x y : Nat} {w w' : World} {e : Ending} (h : ¬ blen x ≤ 8192) (hxy : x ≤ y) (hf : NatF 11 w e w') : NatB y w e w' := by
  unfold NatB
  rw [if_neg (fun hy => h (Nat.le_trans (blen_mono hxy) hy))]
  exact hf

set_option maxRecDepth 100000 in
set_option maxHeartbeats 1000000 in
theorem power_nat (b n : Nat) (w : World) (hb : 2 ≤ b) (hb' : b < W64) (hn : 0 < n) (hn' : n ≤ 8192) :
    Calls Tryd.prog 16 #[wv b, .int .i64 (n : Int)] w (NatB (b ^ n) w) := by
  have HO := Lib.hid (fun W => of_nat 1 W (by decide))
  have HT := Lib.hid (fun (A : Option Addr) (m c x : Nat) (W : World) (h : NatL W A m c x) (hx : blen x ≤ 8192) => times_nat (.agg #[.slice A m c]) x b W ⟨A, m, c, rfl, h⟩ hb' (by omega))
  have HB2 := Lib.hid hb
  have t1 : decide ((n : Int) < 0) = false := decide_eq_false (by omega)
  have t2 : ((n : Int) == 0) = false := by simp; omega
  have t3 : decide ((b : Int) < 2) = false := decide_eq_false (by omega)
  have t4 : decide ((8192 : Int) < (n : Int)) = false := decide_eq_false (by omega)
  have t4' : decide (8192 < n) = false := decide_eq_false (by omega)
  have hnI : ((n : Nat) : Int) ≤ 8192 := by omega
  have HN := Lib.hid hn
  have HK0 := Lib.hid (Blk.new w 26 #[.slice none 0 0])
  have HB0 := Lib.hid ((Below.refl _ w).alloc (Nat.le_refl _) (.cells #[.slice none 0 0] 26))
  clear hb hb' hn hn'
  have e1 : wv 1 = .int .u64 1 := rfl
  rw [e1] at HO
  clear e1
  go_enter Tryd.func16, Tryd.ntmps16
  go_wp2_with fail
  refine (HO.out _).mono ?_
  rintro e w1 hv
  obtain ⟨A1, n1, c1, rfl, hl1, hb1⟩ := hv.open
  have HK1 := Lib.hid ((HK0.out.below hb1 HK0.out.lt).alloc (.cells #[.slice A1 n1 c1] 26))
  have HJ1 := Lib.hid (Blk.new w1 26 #[.slice A1 n1 c1])
  have HB1 := Lib.hid ((keepb HB0.out hb1).alloc (keepb HB0.out hb1).size (.cells #[.slice A1 n1 c1] 26))
  have HL1 := Lib.hid (hl1.below (below_new w1 (.cells #[.slice A1 n1 c1] 26)))
  have hlt1 : w.heap.size < w1.heap.size := Nat.lt_of_lt_of_le HK0.out.lt hb1.size
  have HLT := Lib.hid hlt1
  clear hb1 hl1 hlt1 hv
  go_wp2_with fail
  go_loopw [30] (fun s wr => ∃ (k : Nat) (A : Option Addr) (m c : Nat), s = .int .i64 (k : Int) ∧ k ≤ n ∧ Blk wr w.heap.size 26 #[.slice none 0 0] ∧ Blk wr w1.heap.size 26 #[.slice A m c] ∧ NatL wr A m c (b ^ k) ∧ blen (b ^ k) ≤ 8192 ∧ Below w.heap.size w wr) (fun s _ => n - (intOf s).toNat)
  case atStart => exact ⟨0, A1, n1, c1, by go_num, Nat.zero_le _, HK1.out, HJ1.out, by rw [Nat.pow_zero]; exact HL1.out, by rw [Nat.pow_zero]; decide, HB1.out⟩
  case round =>
    obtain ⟨k, A, m, c, rfl, hk, hk0, hj, hl, hbl, hbe⟩ := hrel
    have HK := Lib.hid hk0
    have HJ := Lib.hid hj
    have HL := Lib.hid hl
    have HBL := Lib.hid hbl
    have HBE := Lib.hid hbe
    have hcell := hj.cell 0
    have hcell : wr.cell? ⟨w1.heap.size, 0, none⟩ = some (.slice A m c) := hcell
    clear hk0 hj hl hbl hbe
    rcases Nat.lt_or_ge k n with hlt | hge
    · have u1 : decide ((k : Int) < (n : Int)) = true := decide_eq_true (by omega)
      have u1' : decide (k < n) = true := by simpa using hlt
      have hp : b ^ k * b = b ^ (k + 1) := (Nat.pow_succ ..).symm
      have HTT := Lib.hid (HT.out A m c (b ^ k) wr HL.out HBL.out)
      rw [hp] at HTT
      have HLK := Lib.hid hlt
      clear hp
      by_cases ho : blen (b ^ (k + 1)) ≤ 8192
      · have HO2 := Lib.hid ho
        clear hlt ho
        go_wp2_with fail
        refine HTT.out.mono ?_
        rintro e w2 hm
        obtain ⟨A2, n2, c2, rfl, hl2, hb2⟩ := hm.small HO2.out
        have HJ2 := Lib.hid (((HJ.out.below hb2 HJ.out.lt).alloc (.cells #[.slice A2 n2 c2] 26)))
        have HK2 := Lib.hid (((HK.out.below hb2 HK.out.lt).alloc (.cells #[.slice A2 n2 c2] 26)))
        have HL2 := Lib.hid (hl2.below (below_new w2 (.cells #[.slice A2 n2 c2] 26)))
        have HBE2 := Lib.hid ((keepb HBE.out hb2).alloc (keepb HBE.out hb2).size (.cells #[.slice A2 n2 c2] 26))
        have hcl := HJ2.out.cell 0
        have hcl : (w2.alloc (.cells #[.slice A2 n2 c2] 26)).cell? ⟨w1.heap.size, 0, none⟩ = some (.slice A m c) := hcl
        have hfr := HJ2.out.frozen 0
        have hbs : b ≠ 0 := by have := HB2.out; omega
        clear hm hl2 hb2 hcell
        go_wp2_with fail
        have hne : w.heap.size ≠ w1.heap.size := Nat.ne_of_lt HLT.out
        go_roundw
        case rel =>
          refine ⟨k + 1, A2, n2, c2, by go_num, HLK.out, HK2.out.far (p := ⟨w1.heap.size, 0, none⟩) hne _, ?_, ?_, HO2.out, HBE2.out.setCell (p := ⟨w1.heap.size, 0, none⟩) (Nat.le_of_lt HLT.out) _⟩
          · exact HJ2.out.set1 0 _
          · have := (show NatW _ (.agg #[.slice A2 n2 c2]) (b ^ (k + 1)) from ⟨A2, n2, c2, rfl, HL2.out⟩).set HJ2.out (by decide) (i := 0) (.slice A2 n2 c2)
            obtain ⟨A3, n3, c3, he, hl3⟩ := this
            simp only [Value.agg.injEq, Array.mk.injEq, List.cons.injEq, Value.slice.injEq, and_true] at he
            obtain ⟨rfl, rfl, rfl⟩ := he
            exact hl3
        case measure => have := HLK.out; simp [intOf]; omega
      · have HO2 := Lib.hid ho
        have hle : b ^ (k + 1) ≤ b ^ n := Nat.pow_le_pow_right (by have := HB2.out; omega) (by omega)
        have HLE := Lib.hid hle
        clear hlt ho hle
        go_wp2_with fail
        refine HTT.out.mono ?_
        rintro e w2 hm
        unfold NatB at hm
        rw [if_neg HO2.out] at hm
        obtain ⟨rfl, hb2⟩ := hm
        have HK2 := Lib.hid (((HK.out.below hb2 HK.out.lt).alloc (.cells #[.slice none 0 0] 26)))
        have HBE2 := Lib.hid ((keepb HBE.out hb2).alloc (keepb HBE.out hb2).size (.cells #[.slice none 0 0] 26))
        have hcl := HK2.out.cell 0
        have hcl : (w2.alloc (.cells #[.slice none 0 0] 26)).cell? ⟨w.heap.size, 0, none⟩ = some (.slice none 0 0) := hcl
        have hfr := HK2.out.frozen 0
        clear hb2 hcell
        go_wp2_with fail
        have hp := HK2.out.put (i := 0) (by simp) (.slice none 0 0)
        exact bodyPost_ret (v := .tuple #[.agg #[.slice none 0 0], enoV 11]) (by simp [results, Tryd.results16, go_sem, hp]) rfl (NatB.over HO2.out HLE.out ⟨rfl, HBE2.out.setCell (p := ⟨w.heap.size, 0, none⟩) (Nat.le_refl _) _⟩)
    · obtain rfl : k = n := by omega
      have u1 : decide ((k : Int) < (k : Int)) = false := by simp
      have u1' : decide (k < k) = false := by simp
      have hcl : wr.cell? ⟨w.heap.size, 0, none⟩ = some (.slice none 0 0) := HK.out.cell 0
      have hfr := HK.out.frozen 0
      clear hge hk
      go_wp2_with fail
      have hp := HK.out.put (i := 0) (by simp) (.slice A m c)
      have hW := (show NatW wr (.agg #[.slice A m c]) (b ^ k) from ⟨A, m, c, rfl, HL.out⟩).set HK.out (by decide) (i := 0) (.slice A m c)
      exact bodyPost_ret (v := .tuple #[.agg #[.slice A m c], .nilIface]) (by simp [results, Tryd.results16, go_sem, hp]) rfl (by unfold NatB; rw [if_pos HBL.out]; exact ⟨_, rfl, hW, HBE.out.setCell (p := ⟨w.heap.size, 0, none⟩) (Nat.le_refl _) _⟩)

set_option maxRecDepth 100000 in
theorem power_zero (b : Int) (w : World) : Calls Tryd.prog 16 #[.int .u64 b, .int .i64 0] w (NatE 1 w) := by
  have HO := Lib.hid (fun W => of_nat 1 W (by decide))
  have HK0 := Lib.hid (Blk.new w 26 #[.slice none 0 0])
  have HB0 := Lib.hid ((Below.refl _ w).alloc (Nat.le_refl _) (.cells #[.slice none 0 0] 26))
  have e1 : wv 1 = .int .u64 1 := rfl
  rw [e1] at HO
  clear e1
  go_enter Tryd.func16, Tryd.ntmps16
  go_wp2_with fail
  refine (HO.out _).mono ?_
  rintro e w1 hv
  obtain ⟨A1, n1, c1, rfl, hl1, hb1⟩ := hv.open
  have HK1 := Lib.hid (HK0.out.below hb1 HK0.out.lt)
  have HB1 := Lib.hid (keepb HB0.out hb1)
  have HL1 := Lib.hid hl1
  clear hb1 hl1 hv
  have hcl : w1.cell? ⟨w.heap.size, 0, none⟩ = some (.slice none 0 0) := HK1.out.cell 0
  have hfr := HK1.out.frozen 0
  go_wp2_with fail
  have hp := HK1.out.put (i := 0) (by simp) (.slice A1 n1 c1)
  have hW := (show NatW w1 (.agg #[.slice A1 n1 c1]) 1 from ⟨A1, n1, c1, rfl, HL1.out⟩).set HK1.out (by decide) (i := 0) (.slice A1 n1 c1)
  exact bodyPost_ret (v := .tuple #[.agg #[.slice A1 n1 c1], .nilIface]) (by simp [results, Tryd.results16, go_sem, hp]) rfl ⟨_, rfl, hW, HB1.out.setCell (p := ⟨w.heap.size, 0, none⟩) (Nat.le_refl _) _⟩
theorem pow_ten_len {n : Nat} (h : n ≤ 2000) : blen (10 ^ n) ≤ 8000 := by
  rcases Nat.eq_zero_or_pos n with rfl | hp
  · decide
  · have h1 : 10 ^ n < (2 ^ 4) ^ n := Nat.pow_lt_pow_left (by decide) (by omega)
    rw [← Nat.pow_mul] at h1
    exact Nat.le_trans (blen_le.2 h1) (by omega)
theorem power_ten (n : Nat) (w : World) (hn : n ≤ 2000) : Calls Tryd.prog 16 #[.int .u64 10, .int .i64 (n : Int)] w (NatE (10 ^ n) w) := by
  rcases Nat.eq_zero_or_pos n with rfl | h
  · exact power_zero 10 w
  · refine (power_nat 10 n w (by omega) (by decide) h (by omega)).mono fun e w' hm => ?_
    unfold NatB at hm
    rwa [if_pos (by have := pow_ten_len hn; omega)] at hm
end Go.Proofs.YtgihkmofpncobaaDoor
