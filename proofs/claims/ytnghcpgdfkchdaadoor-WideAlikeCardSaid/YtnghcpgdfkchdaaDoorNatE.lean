/- The contracts of natural numbers' Add. -/
import Derived.Test.YtnghcpgdfkchdaaDoorNatD
namespace Go.Proofs.YtnghcpgdfkchdaaDoor
open Go.RowKit
set_option linter.unusedSimpArgs false
set_option linter.unusedVariables false

theorem nadd_step {x y c X Y lo hi P B C : Nat} (h : lo + W64 * hi = X + Y + c) (hv : B + P * c = x + y) (hC : C = P * W64) : (B + P * lo) + C * hi = (x + P * X) + (y + P * Y) := by
  have e : P * lo + P * (W64 * hi) = P * X + P * Y + P * c := by rw [← Nat.mul_add, h, Nat.mul_add, Nat.mul_add]
  have e2 : C * hi = P * (W64 * hi) := by rw [hC, Nat.mul_assoc]
  rw [e2]
  omega

theorem blen_add {x y k : Nat} (hx : blen x ≤ k) (hy : blen y ≤ k) : blen (x + y) ≤ k + 1 := by
  have h1 := blen_le.1 hx
  have h2 := blen_le.1 hy
  exact blen_le.2 (by rw [Nat.pow_succ]; omega)
theorem boxes3 (w : World) (u v : Value) (t : TypeId) (o : Obj) : (((w.alloc (.cells #[u] t)).alloc (.cells #[v] t)).alloc o).cell? ⟨w.heap.size, 0, none⟩ = some u ∧ (((w.alloc (.cells #[u] t)).alloc (.cells #[v] t)).alloc o).cell? ⟨w.heap.size + 1, 0, none⟩ = some v := by
  have h1 : (w.alloc (.cells #[u] t)).cell? ⟨w.heap.size, 0, none⟩ = some u := by simp
  have h2 : ((w.alloc (.cells #[u] t)).alloc (.cells #[v] t)).cell? ⟨w.heap.size + 1, 0, none⟩ = some v := by
    have := (Blk.new (w.alloc (.cells #[u] t)) t #[v]).cell 0
    rw [World.size_alloc] at this; exact this.trans rfl
  exact ⟨keepc (below_new _ _) (by simp; omega) (keepc (below_new _ _) (by simp) h1), keepc (below_new _ _) (by simp) h2⟩

set_option maxRecDepth 100000 in
set_option maxHeartbeats 4000000 in
theorem add_nat (v u : Value) (x y : Nat) (w : World) (hv : NatW w v x) (hu : NatW w u y) (hx : blen x ≤ 800000) (hy : blen y ≤ 800000) :
    Calls Tryd.prog 37 #[v, u] w (NatB (x + y) w) := by
  have HV := Lib.hid hv
  have HU := Lib.hid hu
  obtain ⟨A, n, c, rfl, hl⟩ := hv
  obtain ⟨B, m, d, rfl, hk⟩ := hu
  have hn := natl_len hl
  have hm := natl_len hk
  have hxn : x < W64 ^ n := by obtain ⟨l, h1, rfl, _⟩ := hl; exact h1.lt
  have hym : y < W64 ^ m := by obtain ⟨l, h1, rfl, _⟩ := hk; exact h1.lt
  have hW : 0 < W64 := by unfold W64; omega
  obtain ⟨q, hq⟩ : ∃ q, q = max n m := ⟨_, rfl⟩
  have HXQ := Lib.hid (Nat.mod_eq_of_lt (Nat.lt_of_lt_of_le hxn (Nat.pow_le_pow_right hW (show n ≤ q by omega))))
  have HYQ := Lib.hid (Nat.mod_eq_of_lt (Nat.lt_of_lt_of_le hym (Nat.pow_le_pow_right hW (show m ≤ q by omega))))
  have hmax : max (n : Int) (m : Int) = (q : Int) := by omega
  have hq1 : q ≤ 20000 := by omega
  have HBX : Hid (blen (x + y) ≤ 1000000) := Lib.hid (Nat.le_trans (blen_add hx hy) (by decide))
  clear hl hk hn hm hxn hym hW hq hx hy
  go_enter Tryd.func37, Tryd.ntmps37
  go_wp2_with fail
  obtain ⟨W0, hW0⟩ : ∃ W0, W0 = ((w.alloc (.cells #[.slice A n c] 42)).alloc (.cells #[.slice B m d] 42)).alloc (.cells #[.slice none 0 0] 42) := ⟨_, rfl⟩
  have hb0 : Below w.heap.size w W0 := by rw [hW0]; go_grown
  have hsz : W0.heap.size = w.heap.size + 1 + 1 + 1 := by rw [hW0]; simp
  have ca : W0.cell? ⟨w.heap.size, 0, none⟩ = some (.slice A n c) := by rw [hW0]; exact (boxes3 w _ _ _ _).1
  have cb : W0.cell? ⟨w.heap.size + 1, 0, none⟩ = some (.slice B m d) := by rw [hW0]; exact (boxes3 w _ _ _ _).2
  have hbk : Blk W0 (w.heap.size + 2) 42 #[.slice none 0 0] := by
    have := Blk.new ((w.alloc (.cells #[.slice A n c] 42)).alloc (.cells #[.slice B m d] 42)) 42 #[.slice none 0 0]
    simp only [World.size_alloc] at this
    rw [hW0]; exact this
  rw [← hW0]
  have HB0 := Lib.hid hb0
  have HSZ := Lib.hid hsz
  have HA := Lib.hid ca
  have HB := Lib.hid cb
  have HBK := Lib.hid hbk
  clear hW0 hb0 hsz ca cb hbk
  go_loopw [6, 7, 17] (fun s6 s7 s17 wr => ∃ (j k : Nat) (acc : List Nat), s17 = .int .i64 j ∧ s7 = wv k ∧ k ≤ 1 ∧ j ≤ q ∧ acc.length = j ∧ Figs W64 acc ∧ fval W64 acc + W64 ^ j * k = x % W64 ^ j + y % W64 ^ j ∧
      OwnR wr W0.heap.size 22 okW s6 j (acc.map wv) ∧ Below W0.heap.size W0 wr) (fun _ _ s _ => q - (intOf s).toNat)
  case atStart => exact ⟨0, 0, [], rfl, rfl, by omega, by omega, rfl, Figs.nil _, by simp [fval, Nat.mod_one], OwnR.nil _ _ _ _, Below.refl _ _⟩
  case round =>
    obtain ⟨j, k, acc, rfl, rfl, hk1, hj, hal, hfa, hinv, hu6, hbel⟩ := hrel
    obtain ⟨A6, c6, hsh, _⟩ := hu6.shape
    subst hsh
    have HAL := Lib.hid hal
    have HFA := Lib.hid hfa
    have HINV := Lib.hid hinv
    have HU6 := Lib.hid hu6
    have HBE := Lib.hid hbel
    have ca := keepc hbel (by rw [HSZ.out]; omega) HA.out
    have cb := keepc hbel (by rw [HSZ.out]; omega) HB.out
    have hszr : w.heap.size + 1 + 1 + 1 ≤ wr.heap.size := by have := hbel.size; rw [HSZ.out] at this; exact this
    have HBW : Hid (Below w.heap.size w wr) := keepb HB0.out HBE.out
    clear hal hfa hinv hu6 hbel
    by_cases hlt : j < q
    · have HWX := Lib.hid (fun W hb => word_nat _ x j W (HV.out.below hb) (by omega))
      have HWY := Lib.hid (fun W hb => word_nat _ y j W (HU.out.below hb) (by omega))
      have HXM : Hid (x % W64 ^ (j + 1) = x % W64 ^ j + W64 ^ j * (x / W64 ^ j % W64)) := Nat.mod_pow_succ
      have HYM : Hid (y % W64 ^ (j + 1) = y % W64 ^ j + W64 ^ j * (y / W64 ^ j % W64)) := Nat.mod_pow_succ
      have hX : x / W64 ^ j % W64 < W64 := Nat.mod_lt _ (by unfold W64; omega)
      have hY : y / W64 ^ j % W64 < W64 := Nat.mod_lt _ (by unfold W64; omega)
      have HX := Lib.hid hX
      have HY := Lib.hid hY
      have t1 : decide ((j : Int) < q) = true := by simp; omega
      have t1' : decide (j < q) = true := by simp; omega
      clear hX hY
      generalize x / W64 ^ j % W64 = X at *
      generalize y / W64 ^ j % W64 = Y at *
      have cad := fun W => call_add X Y k hk1 W
      have HADD := Lib.hid (add_eq X Y k)
      have HLO := Lib.hid (addLo_lt X Y k)
      have hhi := addHi_le HX.out HY.out hk1
      have hz1 : w.heap.size < wr.heap.size := by omega
      have hz2 : w.heap.size + 1 < wr.heap.size := by omega
      have hbr : Below wr.heap.size wr wr := Below.refl _ _
      generalize addLo X Y k = lo at *
      generalize addHi X Y k = hi at *
      have HNX := Lib.hid (nadd_step HADD.out HINV.out (Nat.pow_succ W64 j))
      rw [← HXM.out, ← HYM.out] at HNX
      go_wp2_with fail
      go_region_held3 (fun w' => w'.cell? ⟨w.heap.size, 0, none⟩ = some (.slice A n c) ∧ w'.cell? ⟨w.heap.size + 1, 0, none⟩ = some (.slice B m d) ∧ Below wr.heap.size wr w')
        (first
          | (go_keep; done)
          | (go_split_ands; exact s_call (by assumption) (by assumption) (by assumption) hz1 hz2 hbn)
          | (go_split_ands; exact s_drew (by assumption) (by assumption) (by assumption)))
        (first
          | (go_at_call_of 66 (Value.agg #[Value.slice A n c]); go_split_ands; refine (HWX.out _ (keepb HBW.out (by assumption))).mono ?_; rintro e w' ⟨rfl, hbn⟩)
          | (go_at_call_of 66 (Value.agg #[Value.slice B m d]); go_split_ands; refine (HWY.out _ (keepb HBW.out (by assumption))).mono ?_; rintro e w' ⟨rfl, hbn⟩))
      go_split_ands
      have hbw : Below wr.heap.size wr w' := by assumption
      have HBR := Lib.hid (keepb HBE.out hbw)
      have HU2 := Lib.hid (HU6.out.below hbw)
      have hszw := HBR.out.size
      clear hbw
      go_wp2_with (at_builtin; refine wpList_app ei_u64 okW0 rfl (.tmp 31) (.tmp 33) rfl W0.heap.size _ _ _ rfl (HU2.out.below (below_new _ _)) _ _ _ _ _ rfl (RV.fresh w' 22 [wv lo]) (fun u hu => by simp at hu; subst hu; rfl) (show j + 1 ≤ _ by omega) (show (j + 1) * 8 ≤ _ by omega) (by simp; omega) ?_; intro A3 c3 w3 hu3 hg3 ha3)
      go_roundw
      case rel => exact ⟨j + 1, hi, acc ++ [lo], by go_num, rfl, hhi, by omega, by simp [HAL.out], HFA.out.snoc HLO.out, by rw [fval_snoc, HAL.out]; exact HNX.out, by rw [List.map_append]; exact hu3, (HBR.out.alloc (by omega) _).grown hg3 (by simp; omega) (fun k hk => (HU2.out.lt k hk).1)⟩
      case measure => simp [intOf]; omega
    · obtain rfl : j = q := by omega
      have HVV := Lib.hid (show fval W64 (acc ++ [k]) = x + y by rw [fval_snoc, HAL.out, HINV.out, HXQ.out, HYQ.out])
      have t1 : decide ((j : Int) < j) = false := by simp
      have HK : Hid (k < W64) := Lib.hid (by unfold W64; omega)
      have HBKr : Hid (Blk wr (w.heap.size + 2) 42 #[.slice none 0 0]) := HBK.out.below HBE.out (by rw [HSZ.out]; omega)
      have hszw := HBE.out.size
      clear hlt
      go_wp2_with (at_builtin; refine wpList_app ei_u64 okW0 rfl (.tmp 36) (.tmp 38) rfl W0.heap.size _ _ _ rfl (HU6.out.below (below_new _ _)) _ _ _ _ _ rfl (RV.fresh wr 22 [wv k]) (fun u hu => by simp at hu; subst hu; rfl) (show j + 1 ≤ _ by omega) (show (j + 1) * 8 ≤ _ by omega) (by simp; omega) ?_; intro A3 c3 w3 hu3 hg3 ha3)
      obtain ⟨_, _, he3, hc3⟩ := hu3.shape
      injection he3 with _ _ he3
      subst he3
      have HB3 := Lib.hid (show Below W0.heap.size W0 w3 from (HBE.out.alloc (by omega) _).grown hg3 (by simp; omega) (fun k hk => (HU6.out.lt k hk).1))
      have HMD := Lib.hid (made_nat A3 (j + 1) _ (x + y) (acc ++ [k]) w3 (by simp [HAL.out]) (HFA.out.snoc HK.out) HVV.out (by rw [List.map_append]; exact RT.of_own hu3) hc3 (by omega))
      have HBK3 : Hid (Blk w3 (w.heap.size + 2) 42 #[.slice none 0 0]) := HBK.out.below HB3.out (by rw [HSZ.out]; omega)
      clear hu3 hg3 ha3 hc3
      refine HMD.out.mono ?_
      rintro e w4 ⟨v4, rfl, hv4, hb4⟩
      have HB4 := Lib.hid (keepb (keepb HB0.out HB3.out) hb4)
      have HBK4 : Hid (Blk w4 (w.heap.size + 2) 42 #[.slice none 0 0]) := HBK3.out.below hb4 HBK3.out.lt
      have HN := Lib.hid (bounded_any v4 (x + y) w4 hv4 HBX.out)
      obtain ⟨A4, n4, c4, rfl, _⟩ := hv4
      clear hb4
      go_wp2_with fail
      refine HN.out.mono ?_
      rintro e w5 h5
      obtain ⟨A5, n5, c5, er, rfl, hq5, hb5⟩ := h5.open
      have HB5 := Lib.hid (keepb HB4.out hb5)
      have HBK5 : Hid (Blk w5 (w.heap.size + 2) 42 #[.slice none 0 0]) := HBK4.out.below hb5 HBK4.out.lt
      have HQ := Lib.hid hq5
      have hc5 := HBK5.out.cell 0
      have hf5 := HBK5.out.frozen 0
      simp at hc5
      have hp := HBK5.out.put (i := 0) (by simp)
      clear h5 hq5 hb5
      go_wp2_with fail
      exact bodyPost_ret (v := .tuple #[.agg #[.slice A5 n5 c5], er]) (by simp [results, Tryd.results37, go_sem, hp]) rfl ((HQ.out.set HBK5.out (by decide) _).mk (HB5.out.setCell (by simp) _))
end Go.Proofs.YtnghcpgdfkchdaaDoor
