/- The contract of natural numbers' Sub. -/
import Derived.Test.YtjggmdlecdbeeaaGreatDoorNatE
namespace Go.Proofs.YtjggmdlecdbeeaaGreatDoor
open Go.RowKit
set_option linter.unusedSimpArgs false
set_option linter.unusedVariables false

theorem NatL.word {w : World} {A : Option Addr} {n c x j : Nat} (h : NatL w A n c x) (hj : j < n) : ∃ g o, A = some ⟨g, o, none⟩ ∧ w.cell? ⟨g, o + j, none⟩ = some (wv (x / W64 ^ j % W64)) := by
  obtain ⟨l, hf, rfl, hr, _⟩ := h
  obtain ⟨g, o, hA, hc⟩ := hr.cell j (by simpa using hj)
  refine ⟨g, o, hA, ?_⟩
  rw [hc, List.getElem_map, ← hf.get j]
  simp [List.getD, hj]
theorem nsub_step {x y c X Y lo hi P B C : Nat} (h : lo + Y + c = X + W64 * hi) (hv : B + y = x + P * c) (hC : C = P * W64) : (B + P * lo) + (y + P * Y) = (x + P * X) + C * hi := by
  have e : P * lo + P * Y + P * c = P * X + P * (W64 * hi) := by rw [← Nat.mul_add, ← Nat.mul_add, h, Nat.mul_add]
  have e2 : C * hi = P * (W64 * hi) := by rw [hC, Nat.mul_assoc]
  rw [e2]
  omega
theorem cmpI_no {x y : Nat} (h : ¬ x < y) : decide (cmpI x y < 0) = false := by
  unfold cmpI
  by_cases he : x = y
  · rw [if_pos he]; rfl
  · rw [if_neg he, if_neg h]; rfl
theorem nsub_end {x y k B P : Nat} (h : B + y = x + P * k) (hB : B < P) (hxy : y ≤ x) : B = x - y := by
  cases k with
  | zero => rw [Nat.mul_zero] at h; omega
  | succ k => rw [Nat.mul_succ] at h; omega
theorem s_call3 {wr W w1 : World} {b c : Nat} {v u z : Value} {a : Addr} (h1 : W.cell? ⟨b, 0, none⟩ = some v) (h2 : W.cell? ⟨c, 0, none⟩ = some u) (h0 : W.cell? ⟨a.block, a.off, none⟩ = some z) (h3 : Below wr.heap.size wr W) (hz : b < wr.heap.size) (hz2 : c < wr.heap.size) (hz3 : a.block < wr.heap.size) (hb : Below W.heap.size W w1) :
    w1.cell? ⟨b, 0, none⟩ = some v ∧ w1.cell? ⟨c, 0, none⟩ = some u ∧ w1.cell? ⟨a.block, a.off, none⟩ = some z ∧ Below wr.heap.size wr w1 :=
  ⟨keepc hb (Nat.lt_of_lt_of_le hz h3.size) h1, keepc hb (Nat.lt_of_lt_of_le hz2 h3.size) h2, keepc hb (Nat.lt_of_lt_of_le hz3 h3.size) h0, keepb h3 hb⟩

/-- The row lies behind what was there. -/
def Fresh (B : Nat) (A : Option Addr) : Prop := ∀ g o, A = some ⟨g, o, none⟩ → B ≤ g
theorem OwnR.fresh {w : World} {base n c : Nat} {e : TypeId} {ok : Value → Prop} {A : Option Addr} {xs : List Value} (h : OwnR w base e ok (.slice A n c) n xs) : Fresh base A := fun g o hA => by
  rcases h.2 with ⟨hv, _⟩ | ⟨g', cap, rest, hv, hb, _⟩
  · rw [(Value.slice.inj hv).1] at hA; cases hA
  · rw [(Value.slice.inj hv).1] at hA
    injection hA with hA; injection hA with hA; omega
theorem NatL.set {w : World} {A : Option Addr} {n c x b i : Nat} {t : TypeId} {cs : Array Value} (h : NatL w A n c x) (hB : Blk w b t cs) (hne : 28 ≠ t) (u : Value) : NatL (w.setCell ⟨b, i, none⟩ u) A n c x := by
  obtain ⟨l, h1, h2, h3, h4⟩ := h
  exact ⟨l, h1, h2, h3.set hB hne u, h4⟩
theorem made_nat2 (A : Option Addr) (n c x : Nat) (m : List Nat) (w : World) (hl : m.length = n) (hf : Figs W64 m) (hv : fval W64 m = x) (hr : RT w 28 A (m.map wv)) (hc : n ≤ c) (hn : n ≤ 1000000000000) :
    Calls Tryz.prog 97 #[.slice A n c] w fun e w' => ∃ k, e = .returned (.agg #[.slice A k c]) ∧ NatL w' A k c x ∧ Below w.heap.size w w' := by
  subst hl hv
  refine (made_any A c m w hr hf hc hn).mono fun e w' h => ?_
  obtain ⟨k, rfl, hk, hf, hb⟩ := h
  refine ⟨k, rfl, ⟨m.take k, hf, by simp; omega, ?_, by omega⟩, hb⟩
  have := (hr.below hb).take k
  rwa [← List.map_take] at this
/-- A number in a row of its own. -/
def NatG (x : Nat) (w : World) (e : Ending) (w' : World) : Prop := ∃ A n c, e = .returned (.tuple #[.agg #[.slice A n c], .nilIface]) ∧ NatL w' A n c x ∧ Fresh w.heap.size A ∧ Below w.heap.size w w'
def NatS (x y : Nat) (w : World) (e : Ending) (w' : World) : Prop := if x < y then NatF 12 w e w' else NatG (x - y) w e w'

set_option maxRecDepth 100000 in
set_option maxHeartbeats 4000000 in
theorem sub_nat (v u : Value) (x y : Nat) (w : World) (hv : NatW w v x) (hu : NatW w u y) (hx : blen x ≤ 1000000) (hy : blen y ≤ 1000000) :
    Calls Tryz.prog 121 #[v, u] w (NatS x y w) := by
  have HV := Lib.hid hv
  have HU := Lib.hid hu
  have HCM := Lib.hid (fun W hb => cmp_nat v u x y W (hv.below hb) (hu.below hb) hx hy)
  obtain ⟨A, n, c, rfl, hl⟩ := hv
  obtain ⟨B, m, d, rfl, hk⟩ := hu
  have HL := Lib.hid hl
  have hn := natl_len hl
  have hxn : x < W64 ^ n := by obtain ⟨l, h1, rfl, _⟩ := hl; exact h1.lt
  have hn1 : n ≤ 20000 := by omega
  have HXN := Lib.hid hxn
  clear hl hk hn hxn hx hy
  go_enter Tryz.func121, Tryz.ntmps121
  go_wp2_with fail
  obtain ⟨W0, hW0⟩ : ∃ W0, W0 = ((w.alloc (.cells #[.slice A n c] 126)).alloc (.cells #[.slice B m d] 126)).alloc (.cells #[.slice none 0 0] 126) := ⟨_, rfl⟩
  have hb0 : Below w.heap.size w W0 := by rw [hW0]; go_grown
  have hsz : W0.heap.size = w.heap.size + 1 + 1 + 1 := by rw [hW0]; simp
  have ca : W0.cell? ⟨w.heap.size, 0, none⟩ = some (.slice A n c) := by rw [hW0]; exact (boxes3 w _ _ _ _).1
  have cb : W0.cell? ⟨w.heap.size + 1, 0, none⟩ = some (.slice B m d) := by rw [hW0]; exact (boxes3 w _ _ _ _).2
  have hbk : Blk W0 (w.heap.size + 2) 126 #[.slice none 0 0] := by
    have := Blk.new ((w.alloc (.cells #[.slice A n c] 126)).alloc (.cells #[.slice B m d] 126)) 126 #[.slice none 0 0]
    simp only [World.size_alloc] at this
    rw [hW0]; exact this
  rw [← hW0]
  have HB0 := Lib.hid hb0
  have HSZ := Lib.hid hsz
  have HA := Lib.hid ca
  have HB := Lib.hid cb
  have HBK := Lib.hid hbk
  clear hW0 hb0 hsz ca cb hbk
  refine (HCM.out _ HB0.out).mono ?_
  rintro e w1 ⟨rfl, hb1⟩
  have HB1 := Lib.hid (keepb HB0.out hb1)
  have ca := keepc hb1 (by rw [HSZ.out]; omega) HA.out
  have cb := keepc hb1 (by rw [HSZ.out]; omega) HB.out
  have HBK1 : Hid (Blk w1 (w.heap.size + 2) 126 #[.slice none 0 0]) := HBK.out.below hb1 (by rw [HSZ.out]; omega)
  have hsz1 : w.heap.size + 1 + 1 + 1 ≤ w1.heap.size := by have := hb1.size; rw [HSZ.out] at this; exact this
  clear hb1
  by_cases hxy : x < y
  · have hc : cmpI x y = -1 := by unfold cmpI; rw [if_neg (by omega), if_pos hxy]
    rw [hc]
    have HP : Hid (NatS x y w = NatF 12 w) := by funext e w'; unfold NatS; rw [if_pos hxy]
    have hp := HBK1.out.put (i := 0) (by simp)
    have hc1 := HBK1.out.cell 0
    have hf1 := HBK1.out.frozen 0
    simp at hc1
    clear hc hxy
    go_wp2_with fail
    exact bodyPost_ret (v := .tuple #[.agg #[.slice none 0 0], enoV 12]) (by simp [results, Tryz.results121, go_sem, hp]) rfl (by rw [HP.out]; exact ⟨rfl, HB1.out.setCell (show w.heap.size ≤ w.heap.size + 2 by omega) _⟩)
  · have HP : Hid (NatS x y w = NatG (x - y) w) := by funext e w'; unfold NatS; rw [if_neg hxy]
    have tc : decide (cmpI x y < 0) = false := cmpI_no hxy
    have HXY := Lib.hid (show y ≤ x by omega)
    clear hxy
    generalize cmpI x y = cm at *
    have HA1 := Lib.hid ca
    have HB1c := Lib.hid cb
    clear cb
    go_wp2_with fail
    clear ca
    go_loopw [6, 7, 19] (fun s6 s7 s19 wr => ∃ (j k : Nat) (acc : List Nat), s19 = .int .i64 j ∧ s7 = wv k ∧ k ≤ 1 ∧ j ≤ n ∧ acc.length = j ∧ Figs W64 acc ∧ fval W64 acc + y % W64 ^ j = x % W64 ^ j + W64 ^ j * k ∧
        OwnR wr w1.heap.size 28 okW s6 j (acc.map wv) ∧ Below w1.heap.size w1 wr) (fun _ _ s _ => n - (intOf s).toNat)
    case atStart => exact ⟨0, 0, [], rfl, rfl, by omega, by omega, rfl, Figs.nil _, by simp [fval, Nat.mod_one], OwnR.nil _ _ _ _, Below.refl _ _⟩
    case round =>
      obtain ⟨j, k, acc, rfl, rfl, hk1, hj, hal, hfa, hinv, hu6, hbel⟩ := hrel
      obtain ⟨A6, c6, hsh, _⟩ := hu6.shape
      subst hsh
      have HAL := Lib.hid hal
      have HFA := Lib.hid hfa
      have HINV := Lib.hid hinv
      have HU6 := Lib.hid hu6
      have HBE := Lib.hid hbel
      have ca := keepc hbel (by omega) HA1.out
      have cb := keepc hbel (by omega) HB1c.out
      have hszr : w.heap.size + 1 + 1 + 1 ≤ wr.heap.size := by have := hbel.size; omega
      have HBW : Hid (Below w.heap.size w wr) := keepb HB1.out HBE.out
      clear hal hfa hinv hu6 hbel
      by_cases hlt : j < n
      · have HWY := Lib.hid (fun W hb => word_nat _ y j W (HU.out.below hb) (by omega))
        have HXM : Hid (x % W64 ^ (j + 1) = x % W64 ^ j + W64 ^ j * (x / W64 ^ j % W64)) := Nat.mod_pow_succ
        have HYM : Hid (y % W64 ^ (j + 1) = y % W64 ^ j + W64 ^ j * (y / W64 ^ j % W64)) := Nat.mod_pow_succ
        have hX : x / W64 ^ j % W64 < W64 := Nat.mod_lt _ (by unfold W64; omega)
        have hY : y / W64 ^ j % W64 < W64 := Nat.mod_lt _ (by unfold W64; omega)
        have HX := Lib.hid hX
        have HY := Lib.hid hY
        have t1 : decide ((j : Int) < n) = true := by simp; omega
        have t1' : decide (j < n) = true := by simp; omega
        have hlx : (j : Int) < n := by omega
        obtain ⟨g, o, rfl, hcx⟩ := (HL.out.below HBW.out).word hlt
        clear hX hY
        generalize x / W64 ^ j % W64 = X at *
        generalize y / W64 ^ j % W64 = Y at *
        have cad := fun W => call_sub X Y k hk1 W
        have HADD := Lib.hid (sub_eq HX.out HY.out hk1)
        have HLO := Lib.hid (subLo_lt X Y k)
        have hhi := subHi_le X Y k
        have hz1 : w.heap.size < wr.heap.size := by omega
        have hz2 : w.heap.size + 1 < wr.heap.size := by omega
        have hz3 : g < wr.heap.size := World.block_lt_of_cell? _ _ hcx
        have hbr : Below wr.heap.size wr wr := Below.refl _ _
        generalize subLo X Y k = lo at *
        generalize subHi X Y k = hi at *
        have HNX := Lib.hid (nsub_step HADD.out HINV.out (Nat.pow_succ W64 j))
        rw [← HXM.out, ← HYM.out] at HNX
        go_wp2_with fail
        go_region_held3 (fun w' => w'.cell? ⟨w.heap.size, 0, none⟩ = some (.slice (some ⟨g, o, none⟩) n c) ∧ w'.cell? ⟨w.heap.size + 1, 0, none⟩ = some (.slice B m d) ∧ w'.cell? ⟨g, o + j, none⟩ = some (wv X) ∧ Below wr.heap.size wr w')
          (first
            | (go_keep; done)
            | (go_split_ands; exact s_call3 (a := ⟨g, o + j, none⟩) (by assumption) (by assumption) (by assumption) (by assumption) hz1 hz2 hz3 hbn)
            | (go_split_ands; refine ⟨by assumption, by assumption, by assumption, ?_⟩; exact below_drewN (by assumption) 1))
          (first
            | (go_at_call_of 122 (Value.agg #[Value.slice B m d]); go_split_ands; refine (HWY.out _ (keepb HBW.out (by assumption))).mono ?_; rintro e w' ⟨rfl, hbn⟩))
        go_split_ands
        have hbw : Below wr.heap.size wr w' := by assumption
        have HBR := Lib.hid (keepb HBE.out hbw)
        have HU2 := Lib.hid (HU6.out.below hbw)
        have hszw := HBR.out.size
        clear hbw
        go_wp2_with (at_builtin; refine wpList_app ei_u64 okW0 rfl (.tmp 35) (.tmp 37) rfl w1.heap.size _ _ _ rfl (HU2.out.below (below_new _ _)) _ _ _ _ _ rfl (RV.fresh w' 28 [wv lo]) (fun u hu => by simp at hu; subst hu; rfl) (show j + 1 ≤ _ by omega) (show (j + 1) * 8 ≤ _ by omega) (by simp; omega) ?_; intro A3 c3 w3 hu3 hg3 ha3)
        go_roundw
        case rel => exact ⟨j + 1, hi, acc ++ [lo], by go_num, rfl, hhi, by omega, by simp [HAL.out], HFA.out.snoc HLO.out, by rw [fval_snoc, HAL.out]; exact HNX.out, by rw [List.map_append]; exact hu3, (HBR.out.alloc (by omega) _).grown hg3 (by simp; omega) (fun k hk => (HU2.out.lt k hk).1)⟩
        case measure => simp [intOf]; omega
      · obtain rfl : j = n := by omega
        have HVV := Lib.hid (show fval W64 acc = x - y from nsub_end (P := W64 ^ j) (k := k) (by
          have h1 := HINV.out
          have h2 : y % W64 ^ j = y := Nat.mod_eq_of_lt (Nat.lt_of_le_of_lt HXY.out HXN.out)
          have h3 : x % W64 ^ j = x := Nat.mod_eq_of_lt HXN.out
          rw [h2, h3] at h1; exact h1) (by have := fval_lt HFA.out; rw [HAL.out] at this; exact this) HXY.out)
        have t1 : decide ((j : Int) < j) = false := by simp
        have hc3 : j ≤ c6 := by
          obtain ⟨_, _, he3, hc3⟩ := HU6.out.shape
          injection he3 with _ _ he3
        have HMD := Lib.hid (made_nat2 A6 j c6 (x - y) acc wr HAL.out HFA.out HVV.out (RT.of_own HU6.out) hc3 (by omega))
        have HBKr : Hid (Blk wr (w.heap.size + 2) 126 #[.slice none 0 0]) := HBK1.out.below HBE.out (by omega)
        clear hlt hc3
        go_wp2_with fail
        have HFR : Hid (Fresh w.heap.size A6) := Lib.hid (fun g o h => Nat.le_trans HB1.out.size (HU6.out.fresh g o h))
        refine HMD.out.mono ?_
        rintro e w4 ⟨n4, rfl, hl4, hb4⟩
        have HB4 := Lib.hid (keepb HBW.out hb4)
        have HBK4 : Hid (Blk w4 (w.heap.size + 2) 126 #[.slice none 0 0]) := HBKr.out.below hb4 HBKr.out.lt
        have HV4 := Lib.hid hl4
        have hc5 := HBK4.out.cell 0
        have hf5 := HBK4.out.frozen 0
        simp at hc5
        have hp := HBK4.out.put (i := 0) (by simp)
        clear hb4 hl4
        go_wp2_with fail
        exact bodyPost_ret (v := .tuple #[.agg #[.slice A6 n4 c6], .nilIface]) (by simp [results, Tryz.results121, go_sem, hp]) rfl (by rw [HP.out]; exact ⟨_, _, _, rfl, HV4.out.set HBK4.out (by decide) _, HFR.out, HB4.out.setCell (show w.heap.size ≤ w.heap.size + 2 by omega) _⟩)
end Go.Proofs.YtjggmdlecdbeeaaGreatDoor
