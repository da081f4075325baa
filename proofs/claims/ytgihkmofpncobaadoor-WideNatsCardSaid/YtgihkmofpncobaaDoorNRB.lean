/- The document's natural numbers: a number divided by a small one. -/
import Derived.Test.YtgihkmofpncobaaDoorNRP
namespace Go.Proofs.YtgihkmofpncobaaDoor
open Go.RowKit
set_option linter.unusedSimpArgs false
set_option linter.unusedVariables false

/-- The quotient, and what is left. -/
def HalfP (x d : Nat) (w : World) (e : Ending) (w' : World) : Prop := ∃ A n c, e = .returned (.tuple #[.agg #[.slice A n c], .int .i64 ((x % d : Nat) : Int)]) ∧ RatL w' A n c (x / d) ∧ Below w.heap.size w w' ∧ Fresh w.heap.size A
theorem boxes2b {w W0 : World} {u z : Value} {t : TypeId} (h : (w.alloc (.cells #[u] t)).alloc (.cells #[z] t) = W0) :
    Blk W0 w.heap.size t #[u] ∧ Blk W0 (w.heap.size + 1) t #[z] ∧ Below w.heap.size w W0 ∧ W0.heap.size = w.heap.size + 2 := by
  subst h
  refine ⟨(Blk.new w t #[u]).alloc _, ?_, by go_grown, by simp⟩
  have := Blk.new (w.alloc (.cells #[u] t)) t #[z]
  simpa using this
theorem lows_ext {M : List Nat} {n z : Nat} (hl : M.length = n) (h : ∀ t, t < n → M.getD t 0 = z / B4 ^ t % B4) : M = lows B4 n z := by
  apply List.ext_getElem?
  intro i
  by_cases hi : i < n
  · rw [lows_get B4 n z i hi, ← h i hi]
    simp [List.getD, show i < M.length by omega]
  · rw [List.getElem?_eq_none (by omega), List.getElem?_eq_none (by rw [lows_length]; omega)]
set_option maxRecDepth 100000 in
set_option maxHeartbeats 4000000 in
theorem rhalved_nat (v : Value) (x d N : Nat) (w : World) (hv : RatW w v x) (hd0 : 0 < d) (hd : d ≤ 65536) (hx : x < B4 ^ N) (hN : N ≤ 10000) :
    Calls Tryd.prog 61 #[v, .int .i64 (d : Int)] w (HalfP x d w) := by
  obtain ⟨A, n, c, rfl, hl⟩ := hv
  have HL := Lib.hid hl
  have hn1 : n ≤ N := hl.len hx
  have HXN := Lib.hid hl.lt
  have hmk := fun W => run_mk ei_int .i64 .i64 n n (Nat.le_refl _) (by omega) (by omega) W
  have hni : (n : Int) ≤ 10000 := by omega
  have HD0 := Lib.hid hd0
  have hdI : (0 : Int) < (d : Int) := by omega
  have hdI2 : (d : Int) ≤ 65536 := by omega
  have dz : ((d : Int) == 0) = false := by simp; omega
  have dz2 : ((d : Int) = 0) = False := by simp; omega
  clear hl hx
  go_enter Tryd.func61, Tryd.ntmps61
  go_wp2_with fail
  obtain ⟨W0, hW0⟩ : ∃ W0, (w.alloc (.cells #[.slice A n c] 31)).alloc (.cells #[.slice none 0 0] 31) = W0 := ⟨_, rfl⟩
  obtain ⟨k0, k1, hb0, hsz⟩ := boxes2b hW0
  rw [hW0]
  have HA := Lib.hid k0
  have HB := Lib.hid k1
  have HB0 := Lib.hid hb0
  have HSZ := Lib.hid hsz
  clear hW0 k0 k1 hb0 hsz
  obtain ⟨g0, hg0⟩ : ∃ g0, g0 = W0.heap.size := ⟨_, rfl⟩
  have hg3 : w.heap.size + 1 + 1 = g0 := by rw [hg0, HSZ.out]
  have HBO := Lib.hid (show Blk (W0.alloc (.cells (zs (.int .i64 0) n).toArray 3)) g0 3 ((List.replicate n 0).map fv).toArray by rw [hg0, ← zs_int]; exact Blk.new _ _ _)
  have HG0 := Lib.hid hg0
  have HG3 := Lib.hid hg3
  simp only [hg3]
  clear hg0
  go_loopw [7, 8] (fun s7 s8 wr => ∃ (j : Nat) (M : List Nat), s8 = .int .i64 ((j : Int) - 1) ∧ s7 = .int .i64 ((x / B4 ^ j % d : Nat) : Int) ∧ j ≤ n ∧ M.length = n ∧ Figs B4 M ∧ (∀ t, j ≤ t → t < n → M.getD t 0 = x / d / B4 ^ t % B4) ∧ Blk wr g0 3 (M.map fv).toArray ∧ Below W0.heap.size W0 wr) (fun _ s8 _ => (intOf s8 + 1).toNat)
  case atStart => exact ⟨n, List.replicate n 0, rfl, by rw [Nat.div_eq_of_lt HXN.out, Nat.zero_mod]; rfl, Nat.le_refl _, by simp, fun d hd => by rw [(List.mem_replicate.1 hd).2]; decide, fun t h1 h2 => by omega, HBO.out, below_new _ _⟩
  case round =>
    obtain ⟨j, M, rfl, rfl, hj, hml, hmf, hmv, hblk, hbel⟩ := hrel
    have HML := Lib.hid hml
    have HMF := Lib.hid hmf
    have HMV := Lib.hid hmv
    have HBL := Lib.hid hblk
    have HBE := Lib.hid hbel
    have HBW : Hid (Below w.heap.size w wr) := Lib.hid (keepb HB0.out hbel)
    have ca := (HA.out.below hbel HA.out.lt).cell 0
    simp at ca
    clear hml hmf hmv hblk hbel
    cases j with
    | zero =>
      have hME : M = lows B4 n (x / d) := lows_ext HML.out (fun t ht => HMV.out t (Nat.zero_le _) ht)
      have hlt : x / d < B4 ^ n := Nat.lt_of_le_of_lt (Nat.div_le_self _ _) HXN.out
      have HRT := Lib.hid (show RT wr 3 (some ⟨g0, 0, none⟩) (M.map fv) from RT.of_blk HBL.out (fun t ht => by rw [Nat.zero_add, List.getElem?_toArray, List.getElem?_eq_getElem ht]))
      have htr := rtrim_any (some ⟨g0, 0, none⟩) n M wr HRT.out HMF.out (by rw [HML.out]; exact Nat.le_refl _) (by rw [HML.out]; omega)
      rw [HML.out] at htr
      have HTR := Lib.hid htr
      have HME := Lib.hid hME
      have HLT := Lib.hid hlt
      have HBKr := Lib.hid (HB.out.below HBE.out HB.out.lt)
      rw [Nat.pow_zero, Nat.div_one]
      have e0 : ((0 : Nat) : Int) - 1 = -1 := rfl
      rw [e0]
      clear htr hME hlt e0
      go_wp2_with fail
      refine HTR.out.mono ?_
      rintro e w4 ⟨k4, rfl, hk4, hf4, hb4⟩
      have HW4 := Lib.hid (keepb HBW.out hb4)
      have HBK4 := Lib.hid (HBKr.out.below hb4 HBKr.out.lt)
      have HL4 : Hid (RatL w4 (some ⟨g0, 0, none⟩) k4 n (x / d)) := Lib.hid (by
        refine ⟨M.take k4, ?_, by rw [List.length_take]; omega, by have := (HRT.out.below hb4).take k4; rwa [← List.map_take] at this, by rw [HML.out] at hk4; omega⟩
        rw [HME.out, fval_lows, Nat.mod_eq_of_lt HLT.out, ← HME.out] at hf4
        exact hf4)
      obtain ⟨cc, fc⟩ : w4.cell? ⟨w.heap.size + 1, 0, none⟩ = some (.slice none 0 0) ∧ w4.frozen? ⟨w.heap.size + 1, 0, none⟩ = false := ⟨HBK4.out.cell 0, HBK4.out.frozen 0⟩
      clear hk4 hf4 hb4
      go_wp2_with fail
      have hp := HBK4.out.put (i := 0) (by simp) (.slice (some ⟨g0, 0, none⟩) k4 n)
      exact bodyPost_ret (v := .tuple #[.agg #[.slice (some ⟨g0, 0, none⟩) k4 n], .int .i64 ((x % d : Nat) : Int)]) (by simp [results, Tryd.results61, go_sem, hp]) rfl ⟨_, _, _, rfl, HL4.out.set HBK4.out (by decide) _, HW4.out.setCell (p := ⟨w.heap.size + 1, 0, none⟩) (Nat.le_add_right _ _) _, fun g o hA => by injection hA with hA; injection hA with hA _; have := HG3.out; omega⟩
    | succ i =>
      obtain ⟨h1, h2, h3⟩ := half_step x d (B4 ^ i) HD0.out (Nat.pow_pos (by decide))
      rw [← Nat.pow_succ] at h1 h2 h3
      have hin : i < n := by omega
      obtain ⟨g1, o1, rfl, hcx⟩ := (HL.out.below HBW.out).fig hin
      have hf : x / B4 ^ i % B4 < 10000 := Nat.mod_lt _ (by decide)
      have hlf : x / B4 ^ (i + 1) % d < d := Nat.mod_lt _ HD0.out
      obtain ⟨X, hX⟩ : ∃ X, x / B4 ^ (i + 1) % d * B4 + x / B4 ^ i % B4 = X := ⟨_, rfl⟩
      have hXs : x / B4 ^ (i + 1) % d * 10000 + x / B4 ^ i % B4 = X := hX
      rw [hX] at h1 h2 h3
      have hXl : X < 655360000 := by unfold B4 at h3; omega
      have hq : X / d < B4 := by rw [Nat.div_lt_iff_lt_mul HD0.out, Nat.mul_comm]; exact h3
      have HQ := Lib.hid hq
      have H1 := Lib.hid h1
      have H2 := Lib.hid h2
      clear hX h1 h2 h3 hq
      generalize x / B4 ^ (i + 1) % d = l at *
      generalize x / B4 ^ i % B4 = f at *
      have eX : (l : Int) * 10000 + (f : Int) = (X : Int) := by omega
      have hXI : (X : Int) < 655360000 := by omega
      have hlI : (l : Int) < 65536 := by omega
      have e1 : (X : Int) / (d : Int) = ((X / d : Nat) : Int) := rfl
      have e2 : Int.tdiv (X : Int) (d : Int) = ((X / d : Nat) : Int) := rfl
      have e3 : (X : Int) % (d : Int) = ((X % d : Nat) : Int) := rfl
      have e4 : Int.tmod (X : Int) (d : Int) = ((X % d : Nat) : Int) := rfl
      have ei : (((i + 1 : Nat) : Int) - 1) = (i : Int) := by omega
      have hcI : (i : Int) < (n : Int) := by omega
      have hqI : ((X / d : Nat) : Int) < 10000 := by have : X / d < 10000 := HQ.out; omega
      have hrI : ((X % d : Nat) : Int) < 65536 := by have := Nat.mod_lt X HD0.out; omega
      rw [ei]
      have ct := blk_fv HBL.out (t := i) (by rw [HML.out]; exact hin)
      have ft := HBL.out.frozen i
      have HIN := Lib.hid hin
      have HB2 := Lib.hid (fun W (hW : Blk W g0 3 (M.map fv).toArray) => (show Blk (W.setCell ⟨g0, i, none⟩ (fv (X / d))) g0 3 ((M.set i (X / d)).map fv).toArray by rw [← set_fv]; exact hW.set1 i (fv (X / d))))
      clear hlf hXs ei hin hf
      generalize M.getD i 0 = old at *
      generalize X / d = q at *
      generalize X % d = r at *
      go_wp2_with fail
      go_roundw
      case rel =>
        refine ⟨i, M.set i q, rfl, by rw [← H2.out], by have := HIN.out; omega, by simpa using HML.out, HMF.out.set HQ.out, fun t h1 h2 => ?_, HB2.out _ HBL.out, HBE.out.setCell (Nat.le_of_eq HG0.out.symm) _⟩
        rcases Nat.eq_or_lt_of_le h1 with rfl | h1
        · rw [← H1.out]
          simp [List.getD, HML.out, h2]
        · rw [← HMV.out t (by omega) h2]
          simp only [List.getD_eq_getElem?_getD]
          rw [List.getElem?_set_ne (by omega)]
      case measure => simp [intOf]
end Go.Proofs.YtgihkmofpncobaaDoor
