/- The contract of natural numbers' Mul. -/
import Derived.Test.YtjggmdlecdbeeaaGreatDoorNatF
namespace Go.Proofs.YtjggmdlecdbeeaaGreatDoor
open Go.RowKit
set_option linter.unusedSimpArgs false
set_option linter.unusedVariables false

theorem fval_set (q : Nat) : ∀ (l : List Nat) (t v : Nat), t < l.length → fval q (l.set t v) + q ^ t * l.getD t 0 = fval q l + q ^ t * v
  | [], t, v, h => by simp at h
  | d :: l, 0, v, h => by simp [fval_cons]; omega
  | d :: l, t + 1, v, h => by
    have h1 := fval_set q l t v (by simpa using h)
    have h2 : (d :: l).getD (t + 1) 0 = l.getD t 0 := by simp [List.getD]
    rw [h2, List.set_cons_succ, fval_cons, fval_cons, Nat.pow_succ, Nat.mul_comm (q ^ t) q, Nat.mul_assoc, Nat.mul_assoc, Nat.add_assoc, Nat.add_assoc, ← Nat.mul_add, ← Nat.mul_add, h1]
theorem mul_top {x y : Nat} (hx : x < W64) (hy : y < W64) (o c : Nat) (ho : o < W64) (hc : c < W64) : x * y + o + c < W64 * W64 := by
  have h : x * y ≤ (W64 - 1) * (W64 - 1) := Nat.mul_le_mul (by omega) (by omega)
  unfold W64 at *
  omega
theorem nmul_step {XY hi lo1 o lo2 c1 more lo3 c2 F F' PX P : Nat} (h1 : XY = W64 * hi + lo1) (h2 : lo2 + W64 * c1 = lo1 + o + 0) (h3 : lo3 + W64 * c2 = lo2 + more + 0) (hs : F' + P * o = F + P * lo3)
    (hi' : F + P * more = PX) : F' + P * W64 * (hi + c1 + c2) = PX + P * XY := by
  have e : lo3 + W64 * (hi + c1 + c2) = XY + o + more := by rw [Nat.mul_add, Nat.mul_add]; omega
  have e2 : P * lo3 + P * W64 * (hi + c1 + c2) = P * XY + P * o + P * more := by rw [Nat.mul_assoc, ← Nat.mul_add, e, Nat.mul_add, Nat.mul_add]
  omega
theorem blen_times {x y a b : Nat} (hx : blen x ≤ a) (hy : blen y ≤ b) : blen (x * y) ≤ a + b :=
  blen_le.2 (by rw [Nat.pow_add]; exact Nat.mul_lt_mul'' (blen_le.1 hx) (blen_le.1 hy))
theorem getD_zero {M : List Nat} (hf : Figs W64 M) {t : Nat} (h : fval W64 M < W64 ^ t) : M.getD t 0 = 0 := by
  rw [← fval_get hf t, Nat.div_eq_of_lt h, Nat.zero_mod]
theorem zs_fig (n : Nat) : (zs (.int .u64 0) n).toArray = ((List.replicate n 0).map wv).toArray := by unfold zs; rw [List.map_replicate]; rfl
theorem set_wv (M : List Nat) (t v : Nat) : ((M.map wv).toArray.setIfInBounds t (wv v)) = ((M.set t v).map wv).toArray := by rw [List.setIfInBounds_toArray, List.map_set]
theorem blk_fig {W : World} {g t : Nat} {M : List Nat} (h : Blk W g 28 (M.map wv).toArray) (ht : t < M.length) : W.cell? ⟨g, t, none⟩ = some (wv (M.getD t 0)) := by
  rw [h.cell, List.getElem?_toArray, List.getElem?_map, List.getElem?_eq_getElem ht]
  simp [List.getD, ht]

set_option maxRecDepth 100000 in
set_option maxHeartbeats 4000000 in
theorem mul_nat (v u : Value) (x y : Nat) (w : World) (hv : NatW w v x) (hu : NatW w u y) (hx : blen x ≤ 400000) (hy : blen y ≤ 400000) :
    Calls Tryz.prog 77 #[v, u] w (NatB (x * y) w) := by
  obtain ⟨A, n, c, rfl, hl⟩ := hv
  obtain ⟨B, m, d, rfl, hk⟩ := hu
  have HL := Lib.hid hl
  have HK := Lib.hid hk
  have hn := natl_len hl
  have hm := natl_len hk
  have hxn : x < W64 ^ n := by obtain ⟨l, h1, rfl, _⟩ := hl; exact h1.lt
  have hym : y < W64 ^ m := by obtain ⟨l, h1, rfl, _⟩ := hk; exact h1.lt
  have HXN := Lib.hid (Nat.mod_eq_of_lt hxn)
  have HYM := Lib.hid (Nat.mod_eq_of_lt hym)
  have HYL := Lib.hid hym
  have hn1 : n ≤ 10000 := by omega
  have hm1 : m ≤ 10000 := by omega
  have HBX := Lib.hid (Nat.le_trans (blen_times hx hy) (show 400000 + 400000 ≤ 1000000 by decide))
  have hmk := fun W => run_mk ei_u64 .i64 .i64 (n + m + 1) (n + m + 1) (Nat.le_refl _) (by omega) (by omega) W
  have e2 : ((n + m + 1 : Nat) : Int) = (n : Int) + (m : Int) + 1 := by omega
  rw [e2] at hmk
  have hni : (n : Int) ≤ 10000 := by omega
  have hmi : (m : Int) ≤ 10000 := by omega
  clear hl hk hn hm hxn hym hx hy e2
  go_enter Tryz.func77, Tryz.ntmps77
  go_wp2_with fail
  obtain ⟨W0, hW0⟩ : ∃ W0, W0 = ((w.alloc (.cells #[.slice A n c] 126)).alloc (.cells #[.slice B m d] 126)).alloc (.cells #[.slice none 0 0] 126) := ⟨_, rfl⟩
  have hb0 : Below w.heap.size w W0 := by rw [hW0]; go_grown
  have hsz : W0.heap.size = w.heap.size + 1 + 1 + 1 := by rw [hW0]; simp
  have ca : W0.cell? ⟨w.heap.size, 0, none⟩ = some (.slice A n c) := by rw [hW0]; exact (boxes3 w _ _ _ _).1
  have cb : W0.cell? ⟨w.heap.size + 1, 0, none⟩ = some (.slice B m d) := by rw [hW0]; exact (boxes3 w _ _ _ _).2
  have hbk : Blk W0 (w.heap.size + 2) 126 #[.slice none 0 0] := by
    have := Blk.new ((w.alloc (.cells #[.slice A n c] 126)).alloc (.cells #[.slice B m d] 126)) 126 #[.slice none 0 0]
    simp only [World.size_alloc] at this
    rw [hW0]; exact this
  rw [← hW0]
  have HB0 := Lib.hid hb0
  have HSZ := Lib.hid hsz
  have HA := Lib.hid ca
  have HB := Lib.hid cb
  have HBK := Lib.hid hbk
  clear hW0 hb0 hsz ca cb hbk
  obtain ⟨g0, hg0⟩ : ∃ g0, g0 = W0.heap.size := ⟨_, rfl⟩
  have hg3 : w.heap.size + 1 + 1 + 1 = g0 := by rw [hg0, HSZ.out]
  have HBO := Lib.hid (show Blk (W0.alloc (.cells (zs (.int .u64 0) (n + m + 1)).toArray 28)) g0 28 ((List.replicate (n + m + 1) 0).map wv).toArray by rw [hg0, ← zs_fig]; exact Blk.new _ _ _)
  have HG0 := Lib.hid hg0
  have HG3 := Lib.hid hg3
  simp only [hg3]
  clear hg0
  go_loopw [27] (fun s27 wr => ∃ (j : Nat) (M : List Nat), s27 = .int .i64 j ∧ j ≤ n ∧ M.length = n + m + 1 ∧ Figs W64 M ∧ fval W64 M = x % W64 ^ j * y ∧ Blk wr g0 28 (M.map wv).toArray ∧ Below W0.heap.size W0 wr) (fun s _ => n - (intOf s).toNat)
  case atStart => exact ⟨0, List.replicate (n + m + 1) 0, rfl, by omega, by simp, fun d hd => by rw [(List.mem_replicate.1 hd).2]; unfold W64; omega, by rw [fval_zero (fun d hd => (List.mem_replicate.1 hd).2)]; simp [Nat.mod_one], HBO.out, below_new _ _⟩
  case round =>
    obtain ⟨j, M, rfl, hj, hml, hmf, hmv, hblk, hbel⟩ := hrel
    obtain ⟨wo, rfl⟩ : ∃ wo : World, wo = wr := ⟨_, rfl⟩
    have HML := Lib.hid hml
    have HMF := Lib.hid hmf
    have HMV := Lib.hid hmv
    have HBL := Lib.hid hblk
    have HBE := Lib.hid hbel
    have hzo := hbel.size
    have hlt0 := hblk.lt
    rw [HSZ.out] at hzo
    have HBWo : Hid (Below w.heap.size w wo) := Lib.hid (keepb HB0.out hbel)
    clear hml hmf hmv hblk hbel
    by_cases hlt : j < n
    · obtain ⟨g, o, rfl, hcx⟩ := (HL.out.below HBWo.out).word hlt
      have HXM : Hid (x % W64 ^ (j + 1) = x % W64 ^ j + W64 ^ j * (x / W64 ^ j % W64)) := Nat.mod_pow_succ
      have hX : x / W64 ^ j % W64 < W64 := Nat.mod_lt _ (by unfold W64; omega)
      have HX := Lib.hid hX
      have t1 : decide ((j : Int) < n) = true := by simp; omega
      have t1' : decide (j < n) = true := by simp; omega
      have hlx : (j : Int) < n := by omega
      have cb := keepc HBE.out (by rw [HSZ.out]; omega) HB.out
      have HTOP := Lib.hid (getD_zero HMF.out (t := j + m) (by
        rw [HMV.out, Nat.pow_add]
        exact Nat.mul_lt_mul'' (Nat.mod_lt _ (Nat.pow_pos (by unfold W64; omega))) HYL.out))
      clear hX
      generalize x / W64 ^ j % W64 = X at *
      go_wp2_with fail
      go_loopw [9, 35] (fun s9 s35 wr => ∃ (k more : Nat) (N : List Nat), s9 = wv more ∧ s35 = .int .i64 k ∧ k ≤ m ∧ more < W64 ∧ N.length = n + m + 1 ∧ Figs W64 N ∧ fval W64 N + W64 ^ (j + k) * more = x % W64 ^ j * y + W64 ^ j * X * (y % W64 ^ k) ∧ N.getD (j + m) 0 = 0 ∧
          Blk wr g0 28 (N.map wv).toArray ∧ Below W0.heap.size W0 wr) (fun _ s _ => m - (intOf s).toNat)
      case atStart => exact ⟨0, 0, M, rfl, rfl, by omega, by unfold W64; omega, HML.out, HMF.out, by rw [HMV.out, Nat.mul_zero, Nat.pow_zero, Nat.mod_one, Nat.mul_zero], HTOP.out, HBL.out, HBE.out⟩
      case round =>
        obtain ⟨k, more, N, rfl, rfl, hk, hmore, hnl, hnf, hnv, hntop, hblk, hbel⟩ := hrel
        have HMO := Lib.hid hmore
        have HNL := Lib.hid hnl
        have HNF := Lib.hid hnf
        have HNV := Lib.hid hnv
        have HNT := Lib.hid hntop
        have HBN := Lib.hid hblk
        have HBEN := Lib.hid hbel
        have hzr := hbel.size
        rw [HSZ.out] at hzr
        have HBWr : Hid (Below w.heap.size w wr) := Lib.hid (keepb HB0.out hbel)
        have cb := keepc hbel (by rw [HSZ.out]; omega) HB.out
        clear hmore hnl hnf hnv hntop hblk hbel
        by_cases hlk : k < m
        · obtain ⟨h, p, rfl, hcy⟩ := (HK.out.below HBWr.out).word hlk
          have HYMk : Hid (y % W64 ^ (k + 1) = y % W64 ^ k + W64 ^ k * (y / W64 ^ k % W64)) := Nat.mod_pow_succ
          have hY : y / W64 ^ k % W64 < W64 := Nat.mod_lt _ (by unfold W64; omega)
          have HY := Lib.hid hY
          have t2 : decide ((k : Int) < m) = true := by simp; omega
          have t2' : decide (k < m) = true := by simp; omega
          have hly : (k : Int) < m := by omega
          have hto : j + k < n + m + 1 := by omega
          have hti : (j : Int) + (k : Int) < (n : Int) + (m : Int) + 1 := by omega
          have hO : N.getD (j + k) 0 < W64 := HNF.out.get (by unfold W64; omega)
          have HO := Lib.hid hO
          have hcO := blk_fig HBN.out (t := j + k) (by rw [HNL.out]; omega)
          have hfO := HBN.out.frozen (j + k)
          have HFS := Lib.hid (fun v => fval_set W64 N (j + k) v (by rw [HNL.out]; omega))
          clear hY hO
          generalize y / W64 ^ k % W64 = Y at *
          generalize N.getD (j + k) 0 = ov at *
          have HM64 := Lib.hid (fun W => mul64 X Y HX.out HY.out W)
          have HH := Lib.hid (mul_lt HX.out HY.out)
          have HE := Lib.hid (Nat.div_add_mod (X * Y) W64).symm
          have HTT := Lib.hid (mul_top HX.out HY.out ov more HO.out HMO.out)
          have hlo : X * Y % W64 < W64 := Nat.mod_lt _ (by unfold W64; omega)
          have HLO := Lib.hid hlo
          clear hlo
          generalize X * Y / W64 = hi at *
          generalize X * Y % W64 = lo at *
          have ca1 := fun W => call_add0 lo ov W
          have HA1 := Lib.hid (add_eq lo ov 0)
          have HL1 := Lib.hid (addLo_lt lo ov 0)
          have HC1 := Lib.hid (addHi_le HLO.out HO.out (show 0 ≤ 1 by omega))
          generalize addLo lo ov 0 = lo2 at *
          generalize addHi lo ov 0 = c1 at *
          have ca2 := fun W => call_add0 lo2 more W
          have HA2 := Lib.hid (add_eq lo2 more 0)
          have HL2 := Lib.hid (addLo_lt lo2 more 0)
          have HC2 := Lib.hid (addHi_le HL1.out HMO.out (show 0 ≤ 1 by omega))
          generalize addLo lo2 more 0 = lo3 at *
          generalize addHi lo2 more 0 = c2 at *
          have hb1 : hi + c1 < W64 := by have := HH.out; have := HC1.out; unfold W64 at *; omega
          have hb2 : hi + c1 + c2 < W64 := by
            have h1 := HTT.out; have h2 := HE.out; have h3 := HA1.out; have h4 := HA2.out
            unfold W64 at *; omega
          have hs1 : IntKind.u64.wrap ((hi : Int) + (c1 : Int)) = ((hi + c1 : Nat) : Int) := by rw [← Int.natCast_add]; exact wrapN _ hb1
          have hs2 : IntKind.u64.wrap (((hi + c1 : Nat) : Int) + (c2 : Int)) = ((hi + c1 + c2 : Nat) : Int) := by rw [← Int.natCast_add]; exact wrapN _ hb2
          have HBB2 := Lib.hid hb2
          have HB2 := Lib.hid (show Blk _ g0 28 ((N.set (j + k) lo3).map wv).toArray by rw [← set_wv]; exact HBN.out.set1 (j + k) (wv lo3))
          clear hb1 hb2
          obtain ⟨h1, hh1⟩ : ∃ h1, h1 = hi + c1 := ⟨_, rfl⟩
          obtain ⟨h2, hh2⟩ : ∃ h2, h2 = hi + c1 + c2 := ⟨_, rfl⟩
          have HH2 := Lib.hid hh2
          rw [← hh2, ← hh1] at hs2
          rw [← hh1] at hs1
          clear hh1 hh2
          go_wp2_with fail
          refine (HM64.out _).mono ?_
          rintro e w' ⟨rfl, rfl⟩
          go_wp2_with fail
          go_roundw
          case rel =>
            have HFS3 := HFS.out lo3
            refine ⟨k + 1, h2, N.set (j + k) lo3, rfl, by go_num, by omega, by rw [HH2.out]; exact HBB2.out, by simpa using HNL.out, HNF.out.set HL2.out, ?_, ?_, HB2.out, HBEN.out.setCell (Nat.le_of_eq HG0.out.symm) _⟩
            · rw [HYMk.out, HH2.out]
              have h3 := nmul_step HE.out HA1.out HA2.out HFS3 HNV.out
              have h4 : W64 ^ (j + (k + 1)) = W64 ^ (j + k) * W64 := by rw [← Nat.add_assoc, Nat.pow_succ]
              have h5 : W64 ^ (j + k) * (X * Y) = W64 ^ j * X * (W64 ^ k * Y) := by rw [Nat.pow_add]; ac_rfl
              rw [h4, h3, h5, Nat.mul_add (W64 ^ j * X), Nat.add_assoc]
            · rw [List.getD_eq_getElem?_getD, List.getElem?_set_ne (by omega), ← List.getD_eq_getElem?_getD]; exact HNT.out
          case measure => simp [intOf]; omega
        · obtain rfl : k = m := by omega
          have t2 : decide ((k : Int) < k) = false := by simp
          have hti : (j : Int) + (k : Int) < (n : Int) + (k : Int) + 1 := by omega
          have hto : j + k < n + k + 1 := by omega
          have hcO := blk_fig HBN.out (t := j + k) (by rw [HNL.out]; omega)
          have hfO := HBN.out.frozen (j + k)
          have hcT := HNT.out
          rw [hcT] at hcO
          have HFS := Lib.hid (fval_set W64 N (j + k) more (by rw [HNL.out]; omega))
          have HB2 := Lib.hid (show Blk _ g0 28 ((N.set (j + k) more).map wv).toArray by rw [← set_wv]; exact HBN.out.set1 (j + k) (wv more))
          clear hcT
          go_wp2_with fail
          go_roundw
          case rel =>
            refine ⟨j + 1, N.set (j + k) more, by go_num, by omega, by simpa using HNL.out, HNF.out.set HMO.out, ?_, HB2.out, HBEN.out.setCell (Nat.le_of_eq HG0.out.symm) _⟩
            have h1 := HFS.out
            rw [HNT.out, Nat.mul_zero, Nat.add_zero] at h1
            rw [h1, HNV.out, HYM.out, HXM.out, Nat.add_mul]
          case measure => simp [intOf]; omega
    · obtain rfl : j = n := by omega
      have t1 : decide ((j : Int) < j) = false := by simp
      have HVV := Lib.hid (show fval W64 M = x * y by rw [HMV.out, HXN.out])
      have HRT := Lib.hid (show RT wo 28 (some ⟨g0, 0, none⟩) (M.map wv) from RT.of_blk HBL.out (fun t ht => by rw [Nat.zero_add, List.getElem?_toArray, List.getElem?_eq_getElem ht]))
      have HMD := Lib.hid (made_nat (some ⟨g0, 0, none⟩) (j + m + 1) (j + m + 1) (x * y) M wo HML.out HMF.out HVV.out HRT.out (Nat.le_refl _) (by omega))
      have HBKr : Hid (Blk wo (w.heap.size + 2) 126 #[.slice none 0 0]) := HBK.out.below HBE.out (by rw [HSZ.out]; omega)
      clear hlt
      go_wp2_with fail
      refine HMD.out.mono ?_
      rintro e w4 ⟨v4, rfl, hv4, hb4⟩
      have HB4 := Lib.hid (keepb HBWo.out hb4)
      have HBK4 : Hid (Blk w4 (w.heap.size + 2) 126 #[.slice none 0 0]) := HBKr.out.below hb4 HBKr.out.lt
      have HN := Lib.hid (bounded_any v4 (x * y) w4 hv4 HBX.out)
      obtain ⟨A4, n4, c4, rfl, _⟩ := hv4
      clear hb4
      go_wp2_with fail
      refine HN.out.mono ?_
      rintro e w5 h5
      obtain ⟨A5, n5, c5, er, rfl, hq5, hb5⟩ := h5.open
      have HB5 := Lib.hid (keepb HB4.out hb5)
      have HBK5 : Hid (Blk w5 (w.heap.size + 2) 126 #[.slice none 0 0]) := HBK4.out.below hb5 HBK4.out.lt
      have HQ := Lib.hid hq5
      have hc5 := HBK5.out.cell 0
      have hf5 := HBK5.out.frozen 0
      simp at hc5
      have hp := HBK5.out.put (i := 0) (by simp)
      clear h5 hq5 hb5
      go_wp2_with fail
      exact bodyPost_ret (v := .tuple #[.agg #[.slice A5 n5 c5], er]) (by simp [results, Tryz.results77, go_sem, hp]) rfl ((HQ.out.set HBK5.out (by decide) _).mk (HB5.out.setCell (show w.heap.size ≤ w.heap.size + 2 by omega) _))
end Go.Proofs.YtjggmdlecdbeeaaGreatDoor
