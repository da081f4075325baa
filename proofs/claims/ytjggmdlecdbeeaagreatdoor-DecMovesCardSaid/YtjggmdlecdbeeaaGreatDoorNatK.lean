/- The contract of natural numbers' Divide. -/
import Derived.Test.YtjggmdlecdbeeaaGreatDoorNatJ
import Derived.Deep.RegionWith
import Derived.Deep.DrawnRows
namespace Go.Proofs.YtjggmdlecdbeeaaGreatDoor
open Go.RowKit
attribute [local go_sem ↓] Go.wp_at_zero Go.wp_at_succ
set_option linter.unusedSimpArgs false
set_option linter.unusedVariables false

theorem natl_zero {w : World} {A : Option Addr} {n c x : Nat} (h : NatL w A n c x) : 0 < n ↔ 0 < x := by
  obtain ⟨l, h1, rfl, _⟩ := h
  exact h1.pos (by unfold W64; omega)
theorem div_step {x y i Q L b : Nat} (h : x / 2 ^ (i + 1) = y * Q + L) (hb : x / 2 ^ i % 2 = b) : x / 2 ^ i = y * (2 * Q) + (2 * L + b) ∧ x / 2 ^ i + y = y * (2 * Q + 1) + (2 * L + b) := by
  have h1 : x / 2 ^ (i + 1) = x / 2 ^ i / 2 := by rw [Nat.div_div_eq_div_mul, Nat.pow_succ]
  have h2 : y * (2 * Q) = 2 * (y * Q) := by rw [Nat.mul_left_comm]
  rw [Nat.mul_add, h2]
  omega
theorem word_mult {M : List Nat} {Q a r : Nat} (hf : Figs W64 M) (h : fval W64 M = Q * 2 ^ (64 * a + r + 1)) (hr : r < 64) : (∃ k, M.getD a 0 = k * 2 ^ (r + 1)) ∧ M.getD a 0 + 2 ^ r < W64 := by
  have hp : 0 < 2 ^ (r + 1) := Nat.pow_pos (by omega)
  have hW : W64 = 2 ^ (63 - r) * 2 ^ (r + 1) := by rw [← Nat.pow_add, show 63 - r + (r + 1) = 64 by omega]; rfl
  have h1 : M.getD a 0 = Q % 2 ^ (63 - r) * 2 ^ (r + 1) := by
    rw [← fval_get hf a, h, Nat.add_assoc, Nat.pow_add, show W64 ^ a = 2 ^ (64 * a) by rw [W64_pow, Nat.pow_mul], Nat.mul_left_comm, Nat.mul_div_cancel_left _ (Nat.pow_pos (by omega))]
    rw (config := { occs := .pos [1] }) [hW]
    rw [Nat.mul_mod_mul_right]
  refine ⟨⟨_, h1⟩, ?_⟩
  have h2 : Q % 2 ^ (63 - r) + 1 ≤ 2 ^ (63 - r) := Nat.mod_lt _ (Nat.pow_pos (by omega))
  have h3 := Nat.mul_le_mul_right (2 ^ (r + 1)) h2
  rw [← hW, Nat.add_mul, Nat.one_mul, ← h1] at h3
  have h4 : 2 ^ (r + 1) = 2 ^ r + 2 ^ r := by rw [Nat.pow_succ]; omega
  have h5 : 0 < 2 ^ r := Nat.pow_pos (by omega)
  omega

theorem wf_nat (i : Nat) (h : i ≤ 1000000) : (Lit.int .i64 (i : Int)).wf = true := by
  have h1 : IntKind.i64.min = -9223372036854775808 := by decide
  simp [Lit.wf, h1]
  omega
theorem blen_twice {L b k : Nat} (h : blen L ≤ k) (hb : b ≤ 1) : blen (2 * L + b) ≤ k + 1 := blen_le.2 (by
  have := blen_le.1 h
  rw [Nat.pow_succ]; omega)
theorem put2 {W : World} {b b' : Nat} {t : TypeId} {x y : Value} (h2 : Blk W b t #[x]) (h3 : Blk W b' t #[y]) (hne : b' ≠ b) (v u : Value) :
    ((W.setCell ⟨b, 0, none⟩ v).setCell ⟨b', 0, none⟩ u).cell? ⟨b, 0, none⟩ = some v ∧ ((W.setCell ⟨b, 0, none⟩ v).setCell ⟨b', 0, none⟩ u).cell? ⟨b', 0, none⟩ = some u := by
  refine ⟨?_, (h3.far (p := ⟨b, 0, none⟩) hne v).put (by simp) u⟩
  have := ((h2.set1 0 v).far (p := ⟨b', 0, none⟩) (fun h => hne h.symm) u).cell 0
  exact this.trans rfl
/-- A store into a row that lies ahead. -/
theorem NatL.far {w : World} {A : Option Addr} {n c x B i : Nat} (h : NatL w A n c x) (hf : Fresh (B + 1) A) (u : Value) : NatL (w.setCell ⟨B, i, none⟩ u) A n c x := by
  obtain ⟨l, h1, h2, h3, h4⟩ := h
  refine ⟨l, h1, h2, ?_, h4⟩
  rcases h3 with h3 | ⟨g, o, cs, hA, hB, hc⟩
  · exact .inl h3
  · exact .inr ⟨g, o, cs, hA, hB.far (p := ⟨B, i, none⟩) (by have := hf g o hA; show g ≠ B; omega) u, hc⟩
theorem Fresh.none (B : Nat) : Fresh B none := fun _ _ h => by cases h
theorem Fresh.mono {B C : Nat} {A : Option Addr} (h : Fresh C A) (hb : B ≤ C) : Fresh B A := fun g o hA => Nat.le_trans hb (h g o hA)

/-- Divide's answer at a number that is not 0. -/
def DivP (x y : Nat) (w : World) (e : Ending) (w' : World) : Prop :=
  ∃ A n c B m d, e = .returned (.tuple #[.agg #[.slice A n c], .agg #[.slice B m d], .nilIface]) ∧ NatL w' A n c (x / y) ∧ NatL w' B m d (x % y) ∧ Below w.heap.size w w'

set_option maxRecDepth 100000 in
set_option maxHeartbeats 4000000 in
theorem div_zero (v u : Value) (x : Nat) (w : World) (hv : NatW w v x) (hu : NatW w u 0) :
    Calls Tryz.prog 102 #[v, u] w fun e w' => e = .returned (.tuple #[nilN, nilN, enoV 13]) ∧ Below w.heap.size w w' := by
  obtain ⟨A, n, c, rfl, _⟩ := hv
  obtain ⟨B, m, d, rfl, hk⟩ := hu
  have hm0 := natl_zero hk
  obtain rfl : m = 0 := by omega
  clear hk hm0
  go_enter Tryz.func102, Tryz.ntmps102
  go_wp2_with fail
  go_step3
  obtain ⟨W4, hW4⟩ : ∃ W4, W4 = (((w.alloc (.cells #[.slice A n c] 126)).alloc (.cells #[.slice B 0 d] 126)).alloc (.cells #[.slice none 0 0] 126)).alloc (.cells #[.slice none 0 0] 126) := ⟨_, rfl⟩
  have hb0 : Below w.heap.size w W4 := by rw [hW4]; go_grown
  have hsz : W4.heap.size = w.heap.size + 1 + 1 + 1 + 1 := by rw [hW4]; simp
  have ca : W4.cell? ⟨w.heap.size, 0, none⟩ = some (.slice A n c) := by rw [hW4]; exact keepc (below_new _ _) (by simp; omega) (boxes3 w _ _ _ _).1
  have cb : W4.cell? ⟨w.heap.size + 1, 0, none⟩ = some (.slice B 0 d) := by rw [hW4]; exact keepc (below_new _ _) (by simp) (boxes3 w _ _ _ _).2
  have hk2 : Blk W4 (w.heap.size + 2) 126 #[.slice none 0 0] := by
    have := (Blk.new ((w.alloc (.cells #[.slice A n c] 126)).alloc (.cells #[.slice B 0 d] 126)) 126 #[.slice none 0 0]).alloc (.cells #[.slice none 0 0] 126)
    simp only [World.size_alloc] at this
    rw [hW4]; exact this
  have hk3 : Blk W4 (w.heap.size + 3) 126 #[.slice none 0 0] := by
    have := Blk.new (((w.alloc (.cells #[.slice A n c] 126)).alloc (.cells #[.slice B 0 d] 126)).alloc (.cells #[.slice none 0 0] 126)) 126 #[.slice none 0 0]
    simp only [World.size_alloc] at this
    rw [hW4]; exact this
  rw [← hW4]
  have HB0 := Lib.hid hb0
  have HSZ := Lib.hid hsz
  have HA := Lib.hid ca
  have HB := Lib.hid cb
  have HK2 := Lib.hid hk2
  have HK3 := Lib.hid hk3
  clear hW4 hb0 ca cb hk2 hk3
  have cb := HB.out
  have c2 := HK2.out.cell 0
  have f2 := HK2.out.frozen 0
  have c3 := HK3.out.cell 0
  have f3 := HK3.out.frozen 0
  simp at c2 c3
  have c3' : ∀ v, (W4.setCell ⟨w.heap.size + 2, 0, none⟩ v).cell? ⟨w.heap.size + 3, 0, none⟩ = some (.slice none 0 0) := fun v => by rw [(HK3.out.far (p := ⟨w.heap.size + 2, 0, none⟩) (by simp) v).cell]; rfl
  have f3' : ∀ v, (W4.setCell ⟨w.heap.size + 2, 0, none⟩ v).frozen? ⟨w.heap.size + 3, 0, none⟩ = false := fun v => (HK3.out.far (p := ⟨w.heap.size + 2, 0, none⟩) (by simp) v).frozen 0
  have hp := put2 HK2.out HK3.out (by simp)
  have hp2 := fun v u => (hp v u).1
  have hp3 := fun v u => (hp v u).2
  clear hp
  go_wp2_with fail
  refine (?_ : bodyPost Tryz.prog Tryz.f102 (fun e w' => e = .returned (.tuple #[nilN, nilN, enoV 13]) ∧ Below w.heap.size w w') .ret _ _)
  exact bodyPost_ret (v := .tuple #[nilN, nilN, enoV 13]) (by simp [results, Tryz.results102, go_sem, hp2, hp3]) rfl ⟨rfl, (HB0.out.setCell (p := ⟨w.heap.size + 2, 0, Option.none⟩) (show w.heap.size ≤ w.heap.size + 2 by omega) _).setCell (p := ⟨w.heap.size + 3, 0, Option.none⟩) (show w.heap.size ≤ w.heap.size + 3 by omega) _⟩
set_option maxRecDepth 100000 in
set_option maxHeartbeats 8000000 in
theorem div_nat (v u : Value) (x y : Nat) (w : World) (hv : NatW w v x) (hu : NatW w u y) (hx : blen x ≤ 100000) (hy : blen y ≤ 100000) (hy0 : 0 < y) :
    Calls Tryz.prog 102 #[v, u] w (DivP x y w) := by
  have HV := Lib.hid hv
  have HU := Lib.hid hu
  obtain ⟨A, n, c, rfl, hl⟩ := hv
  obtain ⟨B, m, d, rfl, hk⟩ := hu
  have hn := natl_len hl
  have hm0 := (natl_zero hk).2 hy0
  have hbn : blen x ≤ 64 * n := by obtain ⟨l, h1, rfl, _⟩ := hl; exact blen_words h1.lt
  have hn1 : n ≤ 2000 := by omega
  have HX := Lib.hid hx
  have HY := Lib.hid hy
  have HBN := Lib.hid hbn
  have HY0 := Lib.hid hy0
  have t0 : ((m : Int) == 0) = false := by rw [beq_eq_false_iff_ne]; omega
  have t0' : (m == 0) = false := by rw [beq_eq_false_iff_ne]; omega
  have hmk := fun W => run_mk ei_u64 .i64 .i64 n n (Nat.le_refl _) (by omega) (by omega) W
  have HLEN := Lib.hid (fun W hb => len_nat _ x W (HV.out.below (w' := W) hb) (Nat.le_trans HX.out (by decide)))
  clear hl hk hn hm0 hbn hx hy hy0
  go_enter Tryz.func102, Tryz.ntmps102
  go_wp2_with fail
  go_step3
  go_upto_region 4 with fail
  obtain ⟨W4, hW4⟩ : ∃ W4, W4 = (((w.alloc (.cells #[.slice A n c] 126)).alloc (.cells #[.slice B m d] 126)).alloc (.cells #[.slice none 0 0] 126)).alloc (.cells #[.slice none 0 0] 126) := ⟨_, rfl⟩
  have hb0 : Below w.heap.size w W4 := by rw [hW4]; go_grown
  have hsz : W4.heap.size = w.heap.size + 1 + 1 + 1 + 1 := by rw [hW4]; simp
  have ca : W4.cell? ⟨w.heap.size, 0, none⟩ = some (.slice A n c) := by rw [hW4]; exact keepc (below_new _ _) (by simp; omega) (boxes3 w _ _ _ _).1
  have cb : W4.cell? ⟨w.heap.size + 1, 0, none⟩ = some (.slice B m d) := by rw [hW4]; exact keepc (below_new _ _) (by simp) (boxes3 w _ _ _ _).2
  have hk2 : Blk W4 (w.heap.size + 2) 126 #[.slice none 0 0] := by
    have := (Blk.new ((w.alloc (.cells #[.slice A n c] 126)).alloc (.cells #[.slice B m d] 126)) 126 #[.slice none 0 0]).alloc (.cells #[.slice none 0 0] 126)
    simp only [World.size_alloc] at this
    rw [hW4]; exact this
  have hk3 : Blk W4 (w.heap.size + 3) 126 #[.slice none 0 0] := by
    have := Blk.new (((w.alloc (.cells #[.slice A n c] 126)).alloc (.cells #[.slice B m d] 126)).alloc (.cells #[.slice none 0 0] 126)) 126 #[.slice none 0 0]
    simp only [World.size_alloc] at this
    rw [hW4]; exact this
  rw [← hW4]
  have HB0 := Lib.hid hb0
  have HSZ := Lib.hid hsz
  have HA := Lib.hid ca
  have HB := Lib.hid cb
  have HK2 := Lib.hid hk2
  have HK3 := Lib.hid hk3
  clear hW4 hb0 ca cb hk2 hk3
  obtain ⟨W6, hW6⟩ : ∃ W6, W6 = (W4.alloc (.cells (zs (.int .u64 0) n).toArray 28)).alloc (.cells #[.slice none 0 0] 126) := ⟨_, rfl⟩
  have hb6 : Below W4.heap.size W4 W6 := by rw [hW6]; go_grown
  have hq6 : Blk W6 (w.heap.size + 4) 28 ((List.replicate n 0).map wv).toArray := by
    have := (Blk.new W4 28 (zs (.int .u64 0) n).toArray).alloc (.cells #[.slice none 0 0] 126)
    rw [zs_fig, hsz, ← zs_fig, ← hW6, zs_fig] at this; exact this
  have hl6 : Blk W6 (w.heap.size + 5) 126 #[.slice none 0 0] := by
    have := Blk.new (W4.alloc (.cells (zs (.int .u64 0) n).toArray 28)) 126 #[.slice none 0 0]
    rw [World.size_alloc, hsz, ← hW6] at this; exact this
  have hs6 : w.heap.size + 6 = W6.heap.size := by rw [hW6]; simp; omega
  have HB6 := Lib.hid hb6
  have HQ6 := Lib.hid hq6
  have HL6 := Lib.hid hl6
  have HS6 := Lib.hid hs6
  have c6 : W6.cell? ⟨w.heap.size, 0, none⟩ = some (.slice A n c) := keepc hb6 (by omega) HA.out
  clear hb6 hq6 hl6 hs6 hsz
  go_wp2_with fail
  rw [← hW6]
  clear hW6
  go_step3
  go_wp2_with fail
  refine (HLEN.out _ (keepb HB0.out HB6.out)).mono ?_
  rintro e w1 ⟨rfl, hb1⟩
  have HB1 := Lib.hid (keepb HB6.out hb1)
  have HQ1 := Lib.hid (HQ6.out.below hb1 (by rw [← HS6.out]; omega))
  have HL1 := Lib.hid (HL6.out.below hb1 (by rw [← HS6.out]; omega))
  have hs1 : w.heap.size + 6 ≤ w1.heap.size := by rw [HS6.out]; exact hb1.size
  have HS1 := Lib.hid hs1
  rw [show W4.heap.size + 1 = w.heap.size + 5 by rw [HSZ.out]]
  have hbx : blen x ≤ 100000 := HX.out
  have HBD := Lib.hid (blen_lt x)
  generalize hbl : blen x = bl at *
  clear hbl hb1 c6 hs1
  go_wp2_with fail
  go_loopw [9] (fun s9 wr => ∃ (j Q L : Nat) (M : List Nat) (A' : Option Addr) (n' c' : Nat), s9 = .int .i64 ((j : Int) - 1) ∧ j ≤ bl ∧ x / 2 ^ j = y * Q + L ∧ L < y ∧ M.length = n ∧ Figs W64 M ∧ fval W64 M = Q * 2 ^ j ∧
      Blk wr (w.heap.size + 4) 28 (M.map wv).toArray ∧ Blk wr (w.heap.size + 5) 126 #[.slice A' n' c'] ∧ NatL wr A' n' c' L ∧ Fresh (w.heap.size + 4 + 1) A' ∧ Below W4.heap.size W4 wr) (fun s _ => (intOf s + 1).toNat)
  case atStart => exact ⟨bl, 0, 0, List.replicate n 0, none, 0, 0, rfl, by omega, by rw [Nat.div_eq_of_lt HBD.out]; simp, HY0.out, by simp, fun d hd => by rw [(List.mem_replicate.1 hd).2]; unfold W64; omega, by rw [fval_zero (fun d hd => (List.mem_replicate.1 hd).2)]; simp, HQ1.out, HL1.out, ⟨[], IsF.nil _, rfl, RT.nil _ _, Nat.le_refl _⟩, Fresh.none _, HB1.out⟩
  case round =>
    obtain ⟨j, Q, L, M, A', n', c', rfl, hj, hxq, hLy, hml, hmf, hmv, hbq, hbl, hnl, hfr, hbel⟩ := hrel
    have HXQ := Lib.hid hxq
    have HLY := Lib.hid hLy
    have HML := Lib.hid hml
    have HMF := Lib.hid hmf
    have HMV := Lib.hid hmv
    have HBQ := Lib.hid hbq
    have HBL := Lib.hid hbl
    have HNL := Lib.hid hnl
    have HFR := Lib.hid hfr
    have HBE := Lib.hid hbel
    have hzr := hbl.lt
    have ca := keepc hbel (by rw [HSZ.out]; omega) HA.out
    have cb := keepc hbel (by rw [HSZ.out]; omega) HB.out
    have HBW := Lib.hid (keepb HB0.out hbel)
    clear hxq hLy hml hmf hmv hbq hbl hnl hfr hbel
    cases j with
    | zero =>
      have e9 : (((0 : Nat)) : Int) - 1 = -1 := rfl
      rw [e9]
      clear e9
      have hxq : x = y * Q + L := by have := HXQ.out; rwa [Nat.pow_zero, Nat.div_one] at this
      have hQ : x / y = Q := by rw [hxq, Nat.mul_add_div HY0.out, Nat.div_eq_of_lt HLY.out, Nat.add_zero]
      have hL : x % y = L := by rw [hxq, Nat.mul_add_mod, Nat.mod_eq_of_lt HLY.out]
      have HQ := Lib.hid hQ
      have HL := Lib.hid hL
      have HVV := Lib.hid (show fval W64 M = Q by rw [HMV.out, Nat.pow_zero, Nat.mul_one])
      have HMD := Lib.hid (fun W (hb : Below wr.heap.size wr W) => made_nat2 (some ⟨w.heap.size + 1 + 1 + 1 + 1, 0, none⟩) n n Q M W HML.out HMF.out HVV.out (RT.of_blk (HBQ.out.below hb HBQ.out.lt) (fun t ht => by rw [Nat.zero_add, List.getElem?_toArray, List.getElem?_eq_getElem ht])) (Nat.le_refl _) (by omega))
      have hcl := HBL.out.cell 0
      have HK2r := Lib.hid (HK2.out.below HBE.out (by rw [HSZ.out]; omega))
      have HK3r := Lib.hid (HK3.out.below HBE.out (by rw [HSZ.out]; omega))
      simp at hcl
      clear hxq hQ hL ca cb
      go_upto_region 12 with fail
      go_region_with (first
        | (go_at_call 97; refine (HMD.out _ (below_drewN (Below.refl _ _) 1)).mono ?_; rintro e wm ⟨k, rfl, hlm, hbm⟩; have HLM := Lib.hid hlm; have HWM := Lib.hid (keepb (below_drewN (Below.refl _ _) 1) hbm); have hcm := keepc HWM.out hzr hcl; have HM2 := Lib.hid (HK2r.out.below HWM.out HK2r.out.lt); have HM3 := Lib.hid (HK3r.out.below HWM.out HK3r.out.lt); have c2 := HM2.out.cell 0; have f2 := HM2.out.frozen 0; have c3 := HM3.out.cell 0; have f3 := HM3.out.frozen 0; clear hlm hbm))
      all_goals
        have hp := put2 HM2.out HM3.out (by simp)
        have hp2 := fun v u => (hp v u).1
        have hp3 := fun v u => (hp v u).2
        clear hp
        go_wp2_with fail
        refine (?_ : bodyPost Tryz.prog Tryz.f102 (DivP x y w) .ret _ _)
        exact bodyPost_ret (v := .tuple #[.agg #[.slice (some ⟨w.heap.size + 1 + 1 + 1 + 1, 0, Option.none⟩) k n], .agg #[.slice A' n' c'], .nilIface]) (by simp [results, Tryz.results102, go_sem, hp2, hp3]) rfl
          ⟨_, k, n, A', n', c', rfl, by rw [HQ.out]; exact (HLM.out.set HM2.out (by decide) _).set (HM3.out.far (p := ⟨w.heap.size + 2, 0, Option.none⟩) (by simp) _) (by decide) _,
            by rw [HL.out]; exact ((HNL.out.below HWM.out).set HM2.out (by decide) _).set (HM3.out.far (p := ⟨w.heap.size + 2, 0, Option.none⟩) (by simp) _) (by decide) _,
            ((keepb HBW.out HWM.out).setCell (p := ⟨w.heap.size + 2, 0, Option.none⟩) (show w.heap.size ≤ w.heap.size + 2 by omega) _).setCell (p := ⟨w.heap.size + 3, 0, Option.none⟩) (show w.heap.size ≤ w.heap.size + 3 by omega) _⟩
    | succ i =>
      have e9 : (((i + 1 : Nat)) : Int) - 1 = (i : Int) := by omega
      rw [e9]
      clear e9
      have HB2 := Lib.hid (fun W (hb : Below wr.heap.size wr W) => bit_nat _ x i W (HV.out.below (keepb HBW.out hb)) (wf_nat i (by omega)))
      have hb1 : oneIf (bitV x i) = x / 2 ^ i % 2 := by
        unfold bitV oneIf
        have : x / 2 ^ i % 2 = 0 ∨ x / 2 ^ i % 2 = 1 := by omega
        rcases this with h | h <;> simp [h]
      have HDS := Lib.hid (div_step HXQ.out hb1.symm)
      have HTW := Lib.hid (fun W (hb : Below wr.heap.size wr W) => twice_nat (.agg #[.slice A' n' c']) L (bitV x i) W (⟨A', n', c', rfl, HNL.out.below hb⟩) (Nat.le_trans (blen_mono (Nat.le_of_lt HLY.out)) (Nat.le_trans HY.out (by decide))))
      clear hb1
      generalize bitV x i = bb at *
      have hob : oneIf bb ≤ 1 := by unfold oneIf; split <;> omega
      have HOB := Lib.hid hob
      generalize oneIf bb = b at *
      clear hob
      have hcl := HBL.out.cell 0
      have hfl := HBL.out.frozen 0
      simp at hcl
      go_upto_region 8 with fail
      go_cut [32] from 28 to 32 (fun s32 wx => ∃ (A2 : Option Addr) (n2 c2 : Nat), Blk wx (w.heap.size + 5) 126 #[.slice A2 n2 c2] ∧ NatL wx A2 n2 c2 (2 * L + b) ∧ Fresh (w.heap.size + 4 + 1) A2 ∧ Blk wx (w.heap.size + 4) 28 (M.map wv).toArray ∧ Below W4.heap.size W4 wx)
      case first =>
        go_region_with (first
          | (go_at_call_of 105 (Value.agg #[Value.slice A n c]); refine (HB2.out _ (below_drewN (Below.refl _ _) 1)).mono ?_; rintro e wb ⟨rfl, hbb⟩; have hbw : Below wr.heap.size wr wb := keepb (below_drewN (Below.refl _ _) 1) hbb; have hcb := keepc hbw hzr hcl; clear hbb)
          | (go_at_call_of 119 (Value.agg #[Value.slice A' n' c']); refine (HTW.out _ (by assumption)).mono ?_; rintro e w2 ⟨A2, n2, c2, rfl, hl2, hf2, hb2⟩; have HL2 := Lib.hid hl2; have hz2 := hb2.size; have HF2 := Lib.hid hf2; have HW2 := Lib.hid (keepb hbw hb2); have HBL2 := Lib.hid (HBL.out.below HW2.out hzr); have hc2 := HBL2.out.cell 0; have hf2' := HBL2.out.frozen 0; simp at hc2; clear hl2 hf2 hb2))
        all_goals
          go_wp2_with fail
          go_meet
          exact ⟨A2, n2, c2, HBL2.out.set1 0 (.slice A2 n2 c2), HL2.out.set HBL2.out (by decide) _, HF2.out.mono (by have := hbw.size; omega), (HBQ.out.below HW2.out (by omega)).far (p := ⟨w.heap.size + 5, 0, none⟩) (by simp) _, (keepb HBE.out HW2.out).setCell (p := ⟨w.heap.size + 5, 0, none⟩) (by rw [HSZ.out]; simp) _⟩
      case rest =>
        obtain ⟨A2, n2, c2, hbl2, hnl2, hfr2, hbq2, hbe2⟩ := hcut
        clear HB2 HTW hcl hfl ca cb hzr HBW
        have HBL2 := Lib.hid hbl2
        have HNL2 := Lib.hid hnl2
        have HFR2 := Lib.hid hfr2
        have HBQ2 := Lib.hid hbq2
        have HBE2 := Lib.hid hbe2
        have HBW2 := Lib.hid (keepb HB0.out hbe2)
        have hzx := hbl2.lt
        have cb := keepc hbe2 (by rw [HSZ.out]; omega) HB.out
        have c8 := hbl2.cell 0
        simp at c8
        have HLB : Hid (blen (2 * L + b) ≤ 1000000) := Lib.hid (Nat.le_trans (blen_twice (Nat.le_trans (blen_mono (Nat.le_of_lt HLY.out)) HY.out) HOB.out) (by decide))
        have HCM := Lib.hid (fun W (hb : Below _ _ W) => cmp_nat (.agg #[.slice A2 n2 c2]) (.agg #[.slice B m d]) (2 * L + b) y W (⟨A2, n2, c2, rfl, HNL2.out.below hb⟩) (HU.out.below (keepb HBW2.out hb)) HLB.out (Nat.le_trans HY.out (by decide)))
        have HSB := Lib.hid (fun W (hb : Below _ _ W) => sub_nat (.agg #[.slice A2 n2 c2]) (.agg #[.slice B m d]) (2 * L + b) y W (⟨A2, n2, c2, rfl, HNL2.out.below hb⟩) (HU.out.below (keepb HBW2.out hb)) HLB.out (Nat.le_trans HY.out (by decide)))
        clear hbl2 hnl2 hfr2 hbq2 hbe2
        by_cases hlt : 2 * L + b < y
        · have hc : cmpI (2 * L + b) y = -1 := by unfold cmpI; rw [if_neg (by omega), if_pos hlt]
          rw [hc] at HCM
          have HLT := Lib.hid hlt
          clear hc hlt
          go_wp2_with fail
          refine (HCM.out _ (Below.refl _ _)).mono ?_
          rintro e w3 ⟨rfl, hb3⟩
          have HB3 := Lib.hid hb3
          clear hb3 c8 cb
          go_wp2_with fail
          go_roundw
          case rel => exact ⟨i, 2 * Q, 2 * L + b, M, A2, n2, c2, by go_num, by omega, HDS.out.1, HLT.out, HML.out, HMF.out, by rw [HMV.out, Nat.pow_succ]; ac_rfl, HBQ2.out.below HB3.out (by omega), HBL2.out.below HB3.out hzx, HNL2.out.below HB3.out, HFR2.out, keepb HBE2.out HB3.out⟩
          case measure => simp [intOf]
        · have tc := cmpI_no hlt
          have HGE := Lib.hid (show y ≤ 2 * L + b by omega)
          clear hlt
          generalize cmpI (2 * L + b) y = cm at *
          go_wp2_with fail
          refine (HCM.out _ (Below.refl _ _)).mono ?_
          rintro e w3 ⟨rfl, hb3⟩
          have HB3 := Lib.hid hb3
          have c83 := keepc hb3 hzx c8
          have cb3 := keepc hb3 (by have := HBE2.out.size; have := HSZ.out; omega) cb
          clear hb3 c8 cb
          go_wp2_with fail
          refine (HSB.out _ HB3.out).mono ?_
          rintro e w4 h4
          obtain ⟨A4, n4, c4, rfl, hl4, hf4, hb4⟩ := h4.own HGE.out
          have HB4 := Lib.hid (keepb HB3.out hb4)
          have HBL4 := Lib.hid (HBL2.out.below HB4.out hzx)
          have HBQ4 := Lib.hid (HBQ2.out.below HB4.out HBQ2.out.lt)
          have HL4 := Lib.hid hl4
          have HF4 := Lib.hid (hf4.mono (show w.heap.size + 4 + 1 ≤ w3.heap.size by have := HB3.out.size; omega))
          have c84 := HBL4.out.cell 0
          have f84 := HBL4.out.frozen 0
          simp at c84
          clear hb4 hl4 hf4 h4 c83 cb3
          go_upto_region 11 with fail
          obtain ⟨W5, hW5⟩ : ∃ W5, W5 = w4.setCell ⟨w.heap.size + 5, 0, none⟩ (.slice A4 n4 c4) := ⟨_, rfl⟩
          have HBK5 : Hid (Blk W5 (w.heap.size + 5) 126 #[.slice A4 n4 c4]) := Lib.hid (by rw [hW5]; exact HBL4.out.set1 0 (.slice A4 n4 c4))
          have HBQ5 : Hid (Blk W5 (w.heap.size + 4) 28 (M.map wv).toArray) := Lib.hid (by rw [hW5]; exact HBQ4.out.far (p := ⟨w.heap.size + 5, 0, none⟩) (by simp) _)
          have HL5 : Hid (NatL W5 A4 n4 c4 (2 * L + b - y)) := Lib.hid (by rw [hW5]; exact HL4.out.set HBL4.out (by decide) _)
          have HBE5 : Hid (Below W4.heap.size W4 W5) := Lib.hid (by rw [hW5]; exact (keepb HBE2.out HB4.out).setCell (p := ⟨w.heap.size + 5, 0, none⟩) (by rw [HSZ.out]; simp) _)
          rw [← hW5]
          clear hW5
          obtain ⟨a, ha⟩ : ∃ a, a = i / 64 := ⟨_, rfl⟩
          obtain ⟨r, hr⟩ : ∃ r, r = i % 64 := ⟨_, rfl⟩
          have hr64 : r < 64 := by omega
          have han : a < n := by have := HBN.out; omega
          have hiar : i = 64 * a + r := by omega
          have hwm := word_mult HMF.out (show fval W64 M = Q * 2 ^ (64 * a + r + 1) by rw [← hiar]; exact HMV.out) hr64
          have ho := orN (L := 2 ^ r) hwm.1 (Nat.pow_lt_pow_right (by omega) (by omega)) hwm.2
          have HO := Lib.hid hwm.2
          have hca := blk_fig HBQ5.out (t := a) (by rw [HML.out]; exact han)
          have hfa := HBQ5.out.frozen a
          have e64 : (i : Int) / 64 = (a : Int) := by omega
          have e64' : (i : Int).tdiv 64 = (a : Int) := by rw [Int.tdiv_eq_ediv_of_nonneg (by omega)]; exact e64
          have e65 : (i : Int) % 64 = (r : Int) := by omega
          have e65' : (i : Int).tmod 64 = (r : Int) := by rw [Int.tmod_eq_emod_of_nonneg (by omega)]; exact e65
          have hai : (a : Int) < n := by omega
          have HFS : Hid (fval W64 (M.set a (M.getD a 0 + 2 ^ r)) = Q * 2 ^ (i + 1) + W64 ^ a * 2 ^ r) := Lib.hid (by
            have h := fval_set W64 M a (M.getD a 0 + 2 ^ r) (by rw [HML.out]; exact han)
            rw [HMV.out, Nat.mul_add] at h; omega)
          have HBQ6 := Lib.hid (show Blk _ (w.heap.size + 4) 28 ((M.set a (M.getD a 0 + 2 ^ r)).map wv).toArray by rw [← set_wv]; exact HBQ5.out.set1 a (wv (M.getD a 0 + 2 ^ r)))
          have HP : Hid (W64 ^ a * 2 ^ r = 2 ^ i) := Lib.hid (by rw [W64_pow, ← Nat.pow_mul, ← Nat.pow_add, ← hiar])
          have hone : IntKind.u64.wrap (2 ^ r) = ((2 ^ r : Nat) : Int) := by
            have h := shl_w 1 r
            rw [Nat.one_mul, Nat.mod_eq_of_lt (by rw [W64_pow]; exact Nat.pow_lt_pow_right (by omega) hr64)] at h
            rw [← Int.one_mul ((2 : Int) ^ r)]
            exact h
          clear hwm ha hr hiar
          generalize M.getD a 0 = H at *
          generalize 2 ^ r = R at *
          generalize H + R = z at *
          go_region
          go_wp2
          go_roundw
          case rel =>
            refine ⟨i, 2 * Q + 1, 2 * L + b - y, M.set a z, A4, n4, c4, by go_num, by omega, ?_, ?_, by simpa using HML.out, HMF.out.set HO.out, ?_, HBQ6.out, HBK5.out.far (p := ⟨w.heap.size + 4, a, none⟩) (by simp) _, HL5.out.far HF4.out _, HF4.out, ?_⟩
            · have := HDS.out.2; have := HGE.out; omega
            · have := HLY.out; have := HOB.out; omega
            · rw [HFS.out, HP.out, Nat.add_mul, Nat.one_mul, Nat.pow_succ]; congr 1; ac_rfl
            · exact below_drewN (HBE5.out.setCell (p := ⟨w.heap.size + 4, a, none⟩) (Nat.le_of_eq HSZ.out) _) 1
          case measure => simp [intOf]
end Go.Proofs.YtjggmdlecdbeeaaGreatDoor
