/- The document's natural numbers: sums and differences. -/
import Derived.Test.YtgihkmofpncobaaDoorNRP
namespace Go.Proofs.YtgihkmofpncobaaDoor
open Go.RowKit
set_option linter.unusedSimpArgs false
set_option linter.unusedVariables false
attribute [local go_sem] SGives_value SGives_skip SGives_enter

theorem boxes3b {w W0 : World} {u v z : Value} {t : TypeId} (h : ((w.alloc (.cells #[u] t)).alloc (.cells #[v] t)).alloc (.cells #[z] t) = W0) :
    Blk W0 w.heap.size t #[u] ∧ Blk W0 (w.heap.size + 1) t #[v] ∧ Blk W0 (w.heap.size + 2) t #[z] ∧ Below w.heap.size w W0 ∧ W0.heap.size = w.heap.size + 3 := by
  subst h
  refine ⟨((Blk.new w t #[u]).alloc _).alloc _, ?_, ?_, by go_grown, by simp⟩
  · have := (Blk.new (w.alloc (.cells #[u] t)) t #[v]).alloc (.cells #[z] t)
    simpa using this
  · have := Blk.new ((w.alloc (.cells #[u] t)).alloc (.cells #[v] t)) t #[z]
    simpa using this
/-- What trim leaves of a row of figures is a number. -/
theorem trim_lows {A : Option Addr} {c j z : Nat} {w w' : World} {k : Nat} (hr : RT w 3 A ((lows B4 j z).map fv)) (hc : j ≤ c) (hz : z < B4 ^ j) (hk : k ≤ (lows B4 j z).length) (hf : IsF B4 (fval B4 (lows B4 j z)) ((lows B4 j z).take k)) (hb : Below w.heap.size w w') : RatL w' A k c z := by
  rw [fval_lows, Nat.mod_eq_of_lt hz] at hf
  rw [lows_length] at hk
  refine ⟨(lows B4 j z).take k, hf, by rw [List.length_take, lows_length]; omega, ?_, by omega⟩
  have := (hr.below hb).take k
  rwa [← List.map_take] at this
theorem b4_pos (j : Nat) : 0 < B4 ^ j := Nat.pow_pos (by decide)
set_option maxRecDepth 100000 in
set_option maxHeartbeats 4000000 in
theorem rplus_nat (v u : Value) (x y N : Nat) (w : World) (hv : RatW w v x) (hu : RatW w u y) (hx : x < B4 ^ N) (hy : y < B4 ^ N) (hN : N ≤ 10000) :
    Calls Tryd.prog 23 #[v, u] w (RatV (x + y) w) := by
  have HV := Lib.hid hv
  have HU := Lib.hid hu
  obtain ⟨A, n, c, rfl, hl⟩ := hv
  obtain ⟨B, m, d, rfl, hk⟩ := hu
  have hxn := hl.lt
  have hym := hk.lt
  have hn : n ≤ N := hl.len hx
  have hm : m ≤ N := hk.len hy
  have HXN := Lib.hid hxn
  have HYM := Lib.hid hym
  have HX := Lib.hid hx
  have HY := Lib.hid hy
  clear hl hk hxn hym hx hy
  go_enter Tryd.func23, Tryd.ntmps23
  go_wp2_with fail
  obtain ⟨W0, hW0⟩ : ∃ W0, ((w.alloc (.cells #[.slice A n c] 31)).alloc (.cells #[.slice B m d] 31)).alloc (.cells #[.slice none 0 0] 31) = W0 := ⟨_, rfl⟩
  obtain ⟨k0, k1, k2, hb0, hsz⟩ := boxes3b hW0
  rw [hW0]
  have HA := Lib.hid k0
  have HB := Lib.hid k1
  have HC := Lib.hid k2
  have HB0 := Lib.hid hb0
  have HSZ := Lib.hid hsz
  clear hW0 k0 k1 k2 hb0 hsz
  go_loopw [5, 6, 7] (fun s5 s6 s7 wr => ∃ (j k : Nat), s7 = .int .i64 (j : Nat) ∧ s6 = .int .i64 (k : Nat) ∧ k ≤ 1 ∧ j ≤ N + 1 ∧ k = (x % B4 ^ j + y % B4 ^ j) / B4 ^ j ∧ OwnR wr W0.heap.size 3 okI s5 j ((lows B4 j (x + y)).map fv) ∧ Below W0.heap.size W0 wr) (fun _ _ s7 _ => N + 2 - (intOf s7).toNat)
  case atStart => exact ⟨0, 0, rfl, rfl, by omega, by omega, by simp [Nat.mod_one], OwnR.nil _ _ _ _, Below.refl _ _⟩
  case round =>
    obtain ⟨j, k, rfl, rfl, hk1, hj, hkv, hown, hbel⟩ := hrel
    obtain ⟨A5, c5, hsh, hc5⟩ := hown.shape
    subst hsh
    have HKV := Lib.hid hkv
    have HOW := Lib.hid hown
    have HBE := Lib.hid hbel
    have HK0 := Lib.hid (HA.out.below hbel HA.out.lt)
    have HK1 := Lib.hid (HB.out.below hbel HB.out.lt)
    have HK2 := Lib.hid (HC.out.below hbel HC.out.lt)
    have HBW : Hid (Below w.heap.size w wr) := keepb HB0.out hbel
    have hle : W0.heap.size ≤ wr.heap.size := hbel.size
    have HLE := Lib.hid hle
    have c0 := HK0.out.cell 0
    have c1 := HK1.out.cell 0
    simp at c0 c1
    clear hkv hown hbel
    by_cases hgo : j < n ∨ j < m ∨ 0 < k
    · have hj1 : j + 1 ≤ N + 1 := by
        rcases hgo with h | h | h
        · omega
        · omega
        · rcases Nat.lt_or_ge j (N + 1) with h' | h'
          · omega
          · exfalso
            have h1 := Nat.le_trans (Nat.mod_le x (B4 ^ j)) (Nat.le_refl _)
            have h2 := Nat.le_trans (Nat.mod_le y (B4 ^ j)) (Nat.le_refl _)
            have h3 : B4 ^ (N + 1) ≤ B4 ^ j := Nat.pow_le_pow_right (by decide) h'
            have h4 : B4 ^ (N + 1) = B4 ^ N * B4 := Nat.pow_succ _ _
            have h5 := HX.out
            have h6 := HY.out
            have h7 : B4 ^ N * 2 ≤ B4 ^ N * B4 := Nat.mul_le_mul_left _ (by decide)
            have h8 : (x % B4 ^ j + y % B4 ^ j) / B4 ^ j = 0 := Nat.div_eq_of_lt (by omega)
            have := HKV.out
            omega
      have HGO := Lib.hid hgo
      have HJ1 := Lib.hid hj1
      clear hgo hj1
      go_upto_region 4 with fail
      go_cut [24] from 9 to 24 (fun s24 wx => s24 = .bool true ∧ wr = wx)
      case first =>
        rcases Classical.em (j < n) with h1 | h1
        · have t1 : decide ((j : Int) < (n : Int)) = true := decide_eq_true (by omega)
          have t1' : decide (j < n) = true := decide_eq_true h1
          go_wp2_with fail
          go_meet
          exact ⟨rfl, rfl⟩
        · have t1 : decide ((j : Int) < (n : Int)) = false := decide_eq_false (by omega)
          have t1' : decide (j < n) = false := decide_eq_false h1
          rcases Classical.em (j < m) with h2 | h2
          · have t2 : decide ((j : Int) < (m : Int)) = true := decide_eq_true (by omega)
            have t2' : decide (j < m) = true := decide_eq_true h2
            go_wp2_with fail
            go_meet
            exact ⟨rfl, rfl⟩
          · have t2 : decide ((j : Int) < (m : Int)) = false := decide_eq_false (by omega)
            have t2' : decide (j < m) = false := decide_eq_false h2
            obtain rfl : k = 1 := by rcases HGO.out with h | h | h <;> omega
            go_wp2_with fail
            go_meet
            exact ⟨rfl, rfl⟩
      case rest =>
      obtain ⟨rfl, hwx⟩ := hcut
      subst hwx
      clear HGO
      have HX1 := Lib.hid (fun W (hb : Below wr.heap.size wr W) => rat_at _ x j W (HV.out.below (keepb HBW.out hb)) (by omega))
      have HX2 := Lib.hid (fun W (hb : Below wr.heap.size wr W) => rat_at _ y j W (HU.out.below (keepb HBW.out hb)) (by omega))
      have hX : x / B4 ^ j % B4 < 10000 := Nat.mod_lt _ (by decide)
      have hY : y / B4 ^ j % B4 < 10000 := Nat.mod_lt _ (by decide)
      obtain ⟨hc1, hc2⟩ := carry_step x y (B4 ^ j) (b4_pos j)
      rw [← HKV.out, ← Nat.pow_succ] at hc2
      rw [← HKV.out] at hc1
      have hsn : lows B4 (j + 1) (x + y) = lows B4 j (x + y) ++ [(x + y) / B4 ^ j % B4] := lows_snoc B4 j (x + y)
      rw [hc1] at hsn
      have HSN := Lib.hid hsn
      have HC2 := Lib.hid hc2
      clear hsn hc1 hc2
      generalize x / B4 ^ j % B4 = X at *
      generalize y / B4 ^ j % B4 = Y at *
      obtain ⟨T, hT⟩ : ∃ T, X + Y + k = T := ⟨_, rfl⟩
      rw [hT] at HSN HC2
      have w1 : IntKind.i64.wrap ((X : Int) + (Y : Int)) = ((X + Y : Nat) : Int) := by rw [show (X : Int) + (Y : Int) = ((X + Y : Nat) : Int) by omega]; exact IntWalk.i64_in _ (by omega)
      have w2 : IntKind.i64.wrap (((X + Y : Nat) : Int) + (k : Int)) = (T : Int) := by rw [show ((X + Y : Nat) : Int) + (k : Int) = (T : Int) by omega]; exact IntWalk.i64_in _ (by omega)
      generalize hZ : X + Y = Z at *
      have hTb : T ≤ 19999 := by omega
      clear hZ
      go_upto_region 6 with fail
      obtain ⟨S, SD⟩ : ∃ S : World → Prop, Go.RowKit.Hid (∀ w' : World, S w' ↔ (Below wr.heap.size wr w')) := ⟨_, Lib.hid (fun _ => Iff.rfl)⟩
      refine wp_region_sure (S := S) (by kernel_rfl) (by kernel_rfl) ((SD.out _).2 (below_drewN (Below.refl _ _) 1)) ?_
      repeat
        (first
          | (refine SureL.no (by rfl) ?_; simp only [Act.put, List.setIfInBounds_toArray, List.set_cons_zero, List.set_cons_succ])
          | (refine' SureL.yes (by rfl) (fun wS hS => ?_) ?_
             rotate_left
             · have hS' := (SD.out _).1 hS
               have c0 := (HK0.out.below hS' HK0.out.lt).cell 0; have c1 := (HK1.out.below hS' HK1.out.lt).cell 0; simp at c0 c1
               go_simp
               first
                 | exact ⟨rfl, hS⟩
                 | (with_reducible refine (HX1.out _ (hS')).mono ?_; rintro e w' ⟨rfl, hb⟩; exact ⟨rfl, (SD.out _).2 (keepb hS' hb)⟩)
                 | (with_reducible refine (HX2.out _ (hS')).mono ?_; rintro e w' ⟨rfl, hb⟩; exact ⟨rfl, (SD.out _).2 (keepb hS' hb)⟩)
             simp only [Act.put, List.setIfInBounds_toArray, List.set_cons_zero, List.set_cons_succ]))
      refine SureL.nil ?_
      intro wE hE
      have HE := Lib.hid ((SD.out _).1 hE)
      have HOE := Lib.hid (HOW.out.below HE.out)
      have HBE2 := Lib.hid (HBE.out.trans (HE.out.mono HLE.out))
      have hsE := HBE2.out.size
      clear hE SD w1 w2 c0 c1
      have hq1 : T / B4 ≤ 1 := by unfold B4; omega
      have HQ1 := Lib.hid hq1
      have e1 : (T : Int) % 10000 = ((T % B4 : Nat) : Int) := by unfold B4; omega
      have e2 : Int.tmod (T : Int) 10000 = ((T % B4 : Nat) : Int) := by rw [Int.tmod_eq_emod_of_nonneg (by omega)]; exact e1
      have e3 : (T : Int) / 10000 = ((T / B4 : Nat) : Int) := by unfold B4; omega
      have e4 : Int.tdiv (T : Int) 10000 = ((T / B4 : Nat) : Int) := by rw [Int.tdiv_eq_ediv_of_nonneg (by omega)]; exact e3
      have hTI : (T : Int) ≤ 19999 := by omega
      have hrI : ((T % B4 : Nat) : Int) < 10000 := by have : T % B4 < B4 := Nat.mod_lt _ (by decide); unfold B4 at *; omega
      clear hT hX hY hq1 hTb
      generalize T % B4 = r at *
      generalize T / B4 = q at *
      go_wp2_with (at_builtin; refine wpList_app ei_int okI0 rfl (.tmp 36) (.tmp 39) rfl W0.heap.size _ _ _ rfl (HOE.out.below (below_new _ _)) _ _ _ _ _ rfl (RV.fresh wE 3 [fv r]) (fun u hu => by simp at hu; subst hu; rfl) (show j + 1 ≤ _ by omega) (show (j + 1) * 8 ≤ _ by omega) (by simp; omega) ?_; intro A3 c3 w3 hu3 hg3 ha3)
      go_roundw
      case rel => exact ⟨j + 1, q, by go_num, rfl, HQ1.out, HJ1.out, HC2.out.symm, by rw [HSN.out, List.map_append]; exact hu3, (HBE2.out.alloc HBE2.out.size _).grown hg3 (by have := HBE2.out.size; simp; omega) (fun k hk => (HOE.out.lt k hk).1)⟩
      case measure => simp [intOf]; omega
    · have t1 : decide ((j : Int) < (n : Int)) = false := decide_eq_false (by omega)
      have t1' : decide (j < n) = false := decide_eq_false (by omega)
      have t2 : decide ((j : Int) < (m : Int)) = false := decide_eq_false (by omega)
      have t2' : decide (j < m) = false := decide_eq_false (by omega)
      obtain rfl : k = 0 := by omega
      have hxj : x < B4 ^ j := Nat.lt_of_lt_of_le HXN.out (Nat.pow_le_pow_right (by decide) (by omega))
      have hyj : y < B4 ^ j := Nat.lt_of_lt_of_le HYM.out (Nat.pow_le_pow_right (by decide) (by omega))
      have hz : x + y < B4 ^ j := by
        have h := HKV.out
        rw [Nat.mod_eq_of_lt hxj, Nat.mod_eq_of_lt hyj] at h
        rcases Nat.div_eq_zero_iff.1 h.symm with h | h
        · exact absurd h (Nat.pos_iff_ne_zero.1 (b4_pos j))
        · exact h
      have HRT := Lib.hid (RT.of_own HOW.out)
      have htr := rtrim_any A5 c5 (lows B4 j (x + y)) wr HRT.out (lows_figs _ _ _ (by decide)) (by rw [lows_length]; exact hc5) (by rw [lows_length]; omega)
      rw [lows_length] at htr
      have HTR := Lib.hid htr
      have HZ := Lib.hid hz
      clear hz htr hgo
      go_wp2_with fail
      refine HTR.out.mono ?_
      rintro e w4 ⟨k4, rfl, hk4, hf4, hb4⟩
      have HW4 := Lib.hid (keepb HBW.out hb4)
      have HK4 := Lib.hid (HK2.out.below hb4 HK2.out.lt)
      have HL4 := Lib.hid (trim_lows HRT.out hc5 HZ.out hk4 hf4 hb4)
      obtain ⟨cc, fc⟩ : w4.cell? ⟨w.heap.size + 2, 0, none⟩ = some (.slice none 0 0) ∧ w4.frozen? ⟨w.heap.size + 2, 0, none⟩ = false := ⟨HK4.out.cell 0, HK4.out.frozen 0⟩
      clear hk4 hf4 hb4 c0 c1
      go_wp2_with fail
      have hp := HK4.out.put (i := 0) (by simp) (.slice A5 k4 c5)
      exact bodyPost_ret (v := .agg #[.slice A5 k4 c5]) (by simp [results, Tryd.results23, go_sem, hp]) rfl ⟨_, _, _, rfl, HL4.out.set HK4.out (by decide) _, HW4.out.setCell (p := ⟨w.heap.size + 2, 0, none⟩) (Nat.le_add_right _ _) _⟩
end Go.Proofs.YtgihkmofpncobaaDoor
