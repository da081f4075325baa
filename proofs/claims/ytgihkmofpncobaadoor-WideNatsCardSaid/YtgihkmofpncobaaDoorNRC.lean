/- The document's natural numbers: differences. -/
import Derived.Test.YtgihkmofpncobaaDoorNRA
namespace Go.Proofs.YtgihkmofpncobaaDoor
open Go.RowKit
set_option linter.unusedSimpArgs false
set_option linter.unusedVariables false
attribute [local go_sem] SGives_value SGives_skip SGives_enter

/-- A number alone, in memory of the call's own. -/
def RatVF (x : Nat) (w : World) (e : Ending) (w' : World) : Prop := ∃ A n c, e = .returned (.agg #[.slice A n c]) ∧ RatL w' A n c x ∧ Below w.heap.size w w' ∧ Fresh w.heap.size A
set_option maxRecDepth 100000 in
set_option maxHeartbeats 4000000 in
theorem rless_fresh (v u : Value) (x y N : Nat) (w : World) (hv : RatW w v x) (hu : RatW w u y) (hx : x < B4 ^ N) (hy : y < B4 ^ N) (hN : N ≤ 10000) (hxy : y ≤ x) :
    Calls Tryd.prog 27 #[v, u] w (RatVF (x - y) w) := by
  have HV := Lib.hid hv
  have HU := Lib.hid hu
  obtain ⟨A, n, c, rfl, hl⟩ := hv
  obtain ⟨B, m, d, rfl, hk⟩ := hu
  have hxn := hl.lt
  have hym := hk.lt
  have hn : n ≤ N := hl.len hx
  have hm : m ≤ N := hk.len hy
  have HXN := Lib.hid hxn
  have HYM := Lib.hid hym
  have HX := Lib.hid hx
  have HXY := Lib.hid hxy
  have HY := Lib.hid hy
  clear hl hk hxn hym hx hy hxy
  go_enter Tryd.func27, Tryd.ntmps27
  go_wp2_with fail
  obtain ⟨W0, hW0⟩ : ∃ W0, ((w.alloc (.cells #[.slice A n c] 31)).alloc (.cells #[.slice B m d] 31)).alloc (.cells #[.slice none 0 0] 31) = W0 := ⟨_, rfl⟩
  obtain ⟨k0, k1, k2, hb0, hsz⟩ := boxes3b hW0
  rw [hW0]
  have HA := Lib.hid k0
  have HB := Lib.hid k1
  have HC := Lib.hid k2
  have HB0 := Lib.hid hb0
  have HSZ := Lib.hid hsz
  clear hW0 k0 k1 k2 hb0 hsz
  go_loopw [5, 6, 7] (fun s5 s6 s7 wr => ∃ (j k : Nat), s7 = .int .i64 (j : Nat) ∧ s6 = .int .i64 (k : Nat) ∧ k ≤ 1 ∧ j ≤ n ∧ k = bor x y (B4 ^ j) ∧ OwnR wr W0.heap.size 3 okI s5 j ((lows B4 j (x - y)).map fv) ∧ Below W0.heap.size W0 wr) (fun _ _ s7 _ => n - (intOf s7).toNat)
  case atStart => exact ⟨0, 0, rfl, rfl, by omega, by omega, by rw [Nat.pow_zero, bor_one], OwnR.nil _ _ _ _, Below.refl _ _⟩
  case round =>
    obtain ⟨j, k, rfl, rfl, hk1, hj, hkv, hown, hbel⟩ := hrel
    obtain ⟨A5, c5, hsh, hc5⟩ := hown.shape
    subst hsh
    have HKV := Lib.hid hkv
    have HOW := Lib.hid hown
    have HBE := Lib.hid hbel
    have HK0 := Lib.hid (HA.out.below hbel HA.out.lt)
    have HK1 := Lib.hid (HB.out.below hbel HB.out.lt)
    have HK2 := Lib.hid (HC.out.below hbel HC.out.lt)
    have HBW : Hid (Below w.heap.size w wr) := keepb HB0.out hbel
    have hle : W0.heap.size ≤ wr.heap.size := hbel.size
    have HLE := Lib.hid hle
    have c0 := HK0.out.cell 0
    have c1 := HK1.out.cell 0
    simp at c0 c1
    clear hkv hown hbel
    by_cases hgo : j < n
    · have t1 : decide ((j : Int) < (n : Int)) = true := decide_eq_true (by omega)
      have t1' : decide (j < n) = true := decide_eq_true hgo
      have HGO := Lib.hid hgo
      clear hgo
      have HX1 := Lib.hid (fun W (hb : Below wr.heap.size wr W) => rat_at _ x j W (HV.out.below (keepb HBW.out hb)) (by omega))
      have HX2 := Lib.hid (fun W (hb : Below wr.heap.size wr W) => rat_at _ y j W (HU.out.below (keepb HBW.out hb)) (by omega))
      have hX : x / B4 ^ j % B4 < 10000 := Nat.mod_lt _ (by decide)
      have hY : y / B4 ^ j % B4 < 10000 := Nat.mod_lt _ (by decide)
      obtain ⟨hc1, hc2⟩ := borrow_step x y (B4 ^ j) (b4_pos j) HXY.out
      rw [← HKV.out, ← Nat.pow_succ] at hc1 hc2
      have hsn : lows B4 (j + 1) (x - y) = lows B4 j (x - y) ++ [(x - y) / B4 ^ j % B4] := lows_snoc B4 j (x - y)
      have hz : (x - y) / B4 ^ j % B4 < 10000 := Nat.mod_lt _ (by decide)
      have HSN := Lib.hid hsn
      clear hsn
      generalize x / B4 ^ j % B4 = X at *
      generalize y / B4 ^ j % B4 = Y at *
      generalize (x - y) / B4 ^ j % B4 = r at *
      obtain ⟨D, hD⟩ : ∃ D : Int, (X : Int) - (Y : Int) = D := ⟨_, rfl⟩
      obtain ⟨T, hT⟩ : ∃ T : Int, D - (k : Int) = T := ⟨_, rfl⟩
      have w1 : IntKind.i64.wrap ((X : Int) - (Y : Int)) = D := by rw [hD]; exact IntWalk.i64_in _ (by omega)
      have w2 : IntKind.i64.wrap (D - (k : Int)) = T := by rw [hT]; exact IntWalk.i64_in _ (by omega)
      have hcs : (T < 0 ∧ T + 10000 = (r : Int) ∧ bor x y (B4 ^ (j + 1)) = 1) ∨ (0 ≤ T ∧ T = (r : Int) ∧ bor x y (B4 ^ (j + 1)) = 0) := by
        rcases Nat.lt_or_ge X (Y + k) with h | h
        · obtain ⟨h1, h2⟩ := hc1 h
          exact .inl ⟨by omega, by unfold B4 at h1; omega, h2⟩
        · obtain ⟨h1, h2⟩ := hc2 h
          exact .inr ⟨by omega, by omega, h2⟩
      have HCS := Lib.hid hcs
      have hTb : -20000 < T ∧ T < 20000 := by omega
      have HTB := Lib.hid hTb
      clear hc1 hc2 hcs hTb
      clear hD hT
      go_upto_region 6 with fail
      obtain ⟨S, SD⟩ : ∃ S : World → Prop, Go.RowKit.Hid (∀ w' : World, S w' ↔ (Below wr.heap.size wr w')) := ⟨_, Lib.hid (fun _ => Iff.rfl)⟩
      refine wp_region_sure (S := S) (by kernel_rfl) (by kernel_rfl) ((SD.out _).2 (below_drewN (Below.refl _ _) 1)) ?_
      repeat
        (first
          | (refine SureL.no (by rfl) ?_; simp only [Act.put, List.setIfInBounds_toArray, List.set_cons_zero, List.set_cons_succ])
          | (refine' SureL.yes (by rfl) (fun wS hS => ?_) ?_
             rotate_left
             · have hS' := (SD.out _).1 hS
               have c0 := (HK0.out.below hS' HK0.out.lt).cell 0; have c1 := (HK1.out.below hS' HK1.out.lt).cell 0; simp at c0 c1
               go_simp
               first
                 | exact ⟨rfl, hS⟩
                 | (with_reducible refine (HX1.out _ (hS')).mono ?_; rintro e w' ⟨rfl, hb⟩; exact ⟨rfl, (SD.out _).2 (keepb hS' hb)⟩)
                 | (with_reducible refine (HX2.out _ (hS')).mono ?_; rintro e w' ⟨rfl, hb⟩; exact ⟨rfl, (SD.out _).2 (keepb hS' hb)⟩)
             simp only [Act.put, List.setIfInBounds_toArray, List.set_cons_zero, List.set_cons_succ]))
      refine SureL.nil ?_
      intro wE hE
      have HE := Lib.hid ((SD.out _).1 hE)
      have HOE := Lib.hid (HOW.out.below HE.out)
      have HBE2 := Lib.hid (HBE.out.trans (HE.out.mono HLE.out))
      have hsE := HBE2.out.size
      clear hE SD w1 w2 c0 c1
      rcases HCS.out with ⟨h1, h2, h3⟩ | ⟨h1, h2, h3⟩
      · have t2 : decide (T < 0) = true := decide_eq_true h1
        have H3 := Lib.hid h3
        have hr1 : (r : Int) < 10000 := by omega
        have b1 := HTB.out.1
        have b2 := HTB.out.2
        clear h1 h3 hX hY hz
        go_wp2_with (at_builtin; refine wpList_app ei_int okI0 rfl (.tmp 29) (.tmp 31) rfl W0.heap.size _ _ _ rfl (HOE.out.below (below_new _ _)) _ _ _ _ _ rfl (RV.fresh wE 3 [fv r]) (fun u hu => by simp at hu; subst hu; rfl) (show j + 1 ≤ _ by omega) (show (j + 1) * 8 ≤ _ by omega) (by simp; omega) ?_; intro A3 c3 w3 hu3 hg3 ha3)
        go_roundw
        case rel => exact ⟨j + 1, 1, by go_num, rfl, Nat.le_refl _, by have := HGO.out; omega, H3.out.symm, by rw [HSN.out, List.map_append]; exact hu3, (HBE2.out.alloc HBE2.out.size _).grown hg3 (by have := HBE2.out.size; simp; omega) (fun k hk => (HOE.out.lt k hk).1)⟩
        case measure => have := HGO.out; simp [intOf]; omega
      · have t2 : decide (T < 0) = false := decide_eq_false (by omega)
        have H3 := Lib.hid h3
        have hr1 : (r : Int) < 10000 := by omega
        have b1 := HTB.out.1
        have b2 := HTB.out.2
        subst h2
        clear h1 h3 hX hY hz
        go_wp2_with (at_builtin; refine wpList_app ei_int okI0 rfl (.tmp 29) (.tmp 31) rfl W0.heap.size _ _ _ rfl (HOE.out.below (below_new _ _)) _ _ _ _ _ rfl (RV.fresh wE 3 [fv r]) (fun u hu => by simp at hu; subst hu; rfl) (show j + 1 ≤ _ by omega) (show (j + 1) * 8 ≤ _ by omega) (by simp; omega) ?_; intro A3 c3 w3 hu3 hg3 ha3)
        go_roundw
        case rel => exact ⟨j + 1, 0, by go_num, rfl, by omega, by have := HGO.out; omega, H3.out.symm, by rw [HSN.out, List.map_append]; exact hu3, (HBE2.out.alloc HBE2.out.size _).grown hg3 (by have := HBE2.out.size; simp; omega) (fun k hk => (HOE.out.lt k hk).1)⟩
        case measure => have := HGO.out; simp [intOf]; omega
    · have t1 : decide ((j : Int) < (n : Int)) = false := decide_eq_false (by omega)
      have t1' : decide (j < n) = false := decide_eq_false hgo
      have hz : x - y < B4 ^ j := Nat.lt_of_le_of_lt (Nat.sub_le _ _) (Nat.lt_of_lt_of_le HXN.out (Nat.pow_le_pow_right (by decide) (by omega)))
      have HRT := Lib.hid (RT.of_own HOW.out)
      have htr := rtrim_any A5 c5 (lows B4 j (x - y)) wr HRT.out (lows_figs _ _ _ (by decide)) (by rw [lows_length]; exact hc5) (by rw [lows_length]; omega)
      rw [lows_length] at htr
      have HTR := Lib.hid htr
      have HZ := Lib.hid hz
      clear hz htr hgo
      go_wp2_with fail
      refine HTR.out.mono ?_
      rintro e w4 ⟨k4, rfl, hk4, hf4, hb4⟩
      have HW4 := Lib.hid (keepb HBW.out hb4)
      have HK4 := Lib.hid (HK2.out.below hb4 HK2.out.lt)
      have HL4 := Lib.hid (trim_lows HRT.out hc5 HZ.out hk4 hf4 hb4)
      obtain ⟨cc, fc⟩ : w4.cell? ⟨w.heap.size + 2, 0, none⟩ = some (.slice none 0 0) ∧ w4.frozen? ⟨w.heap.size + 2, 0, none⟩ = false := ⟨HK4.out.cell 0, HK4.out.frozen 0⟩
      clear hk4 hf4 hb4 c0 c1
      go_wp2_with fail
      have hp := HK4.out.put (i := 0) (by simp) (.slice A5 k4 c5)
      exact bodyPost_ret (v := .agg #[.slice A5 k4 c5]) (by simp [results, Tryd.results27, go_sem, hp]) rfl ⟨_, _, _, rfl, HL4.out.set HK4.out (by decide) _, HW4.out.setCell (p := ⟨w.heap.size + 2, 0, none⟩) (Nat.le_add_right _ _) _, HOW.out.fresh.mono (by have := HSZ.out; omega)⟩
theorem rless_nat (v u : Value) (x y N : Nat) (w : World) (hv : RatW w v x) (hu : RatW w u y) (hx : x < B4 ^ N) (hy : y < B4 ^ N) (hN : N ≤ 10000) (hxy : y ≤ x) :
    Calls Tryd.prog 27 #[v, u] w (RatV (x - y) w) := (rless_fresh v u x y N w hv hu hx hy hN hxy).mono fun e w' ⟨A, n, c, h1, h2, h3, _⟩ => ⟨A, n, c, h1, h2, h3⟩
end Go.Proofs.YtgihkmofpncobaaDoor
