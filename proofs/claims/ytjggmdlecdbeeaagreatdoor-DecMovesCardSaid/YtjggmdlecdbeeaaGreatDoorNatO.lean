/- The contract of natural numbers' Shr. -/
import Derived.Test.YtjggmdlecdbeeaaGreatDoorNatM
namespace Go.Proofs.YtjggmdlecdbeeaaGreatDoor
open Go.RowKit
set_option linter.unusedSimpArgs false
set_option linter.unusedVariables false

/-- What Shr answers: the number shifted down, and whether something was lost. -/
def ShrP (x K : Nat) (w : World) (e : Ending) (w' : World) : Prop :=
  ∃ A n c, e = .returned (.tuple #[.agg #[.slice A n c], .bool (decide (x % 2 ^ K ≠ 0))]) ∧ NatL w' A n c (x / 2 ^ K) ∧ Below w.heap.size w w'

theorem field_lo (a b : Nat) (w : World) : (Instr.field 168 (.agg #[wv a, wv b]) 1).run Tryz.prog w = .ok (wv b) w := by kernel_rfl
theorem ne_dec (X : Nat) : ((X : Int) != 0) = decide (X ≠ 0) := by
  cases X with
  | zero => rfl
  | succ X => simp; omega
theorem lows_next {x K a r j : Nat} (ha : a = K / 64) (hr : r = K % 64) (h : a ≤ j) : lows W64 (j + 1 - a) (x / 2 ^ K) = lows W64 (j - a) (x / 2 ^ K) ++ [x / 2 ^ (64 * j + r) % W64] := by
  rw [show j + 1 - a = j - a + 1 by omega, lows_snoc, Nat.div_div_eq_div_mul, W64p, ← Nat.pow_add]
  congr 5
  omega
set_option maxRecDepth 100000 in
set_option maxHeartbeats 4000000 in
theorem nshr_nat (v : Value) (x : Nat) (k : Int) (w : World) (hv : NatW w v x) (hx : blen x ≤ 1000000) (hk : k ≤ 9223372036854775807) :
    Calls Tryz.prog 103 #[v, .int .i64 k] w (ShrP x k.toNat w) := by
  have HV := Lib.hid hv
  obtain ⟨A, n, c, rfl, hl⟩ := hv
  have hn := natl_len hl
  have hxn : x < W64 ^ n := by obtain ⟨l, h1, rfl, _⟩ := hl; exact h1.lt
  have HXN := Lib.hid hxn
  have hK : max k 0 = (k.toNat : Int) := by omega
  have hKI : (k.toNat : Int) ≤ 9223372036854775807 := by omega
  generalize k.toNat = K at *
  have HL := Lib.hid hl
  have hn1 : n ≤ 20000 := by omega
  obtain ⟨a, ha⟩ : ∃ a, a = K / 64 := ⟨_, rfl⟩
  obtain ⟨r, hr⟩ : ∃ r, r = K % 64 := ⟨_, rfl⟩
  have e64 : (K : Int) / 64 = (a : Int) := by omega
  have e65 : (K : Int) % 64 = (r : Int) := by omega
  have hr64 : r < 64 := by omega
  have HKA := Lib.hid ha
  have HKR := Lib.hid hr
  have HLE := Lib.hid (lost_end (K := K) hxn)
  have HSE := Lib.hid (shr_end (K := K) hxn)
  have HL0 : Hid (lostV x K 0 = false) := Lib.hid (by unfold lostV; simp [Nat.mod_one])
  clear hn hx hxn hl ha hr
  go_enter Tryz.func103, Tryz.ntmps103
  go_wp2_with fail
  obtain ⟨W0, hW0⟩ : ∃ W0, W0 = (w.alloc (.cells #[.slice A n c] 126)).alloc (.cells #[.slice none 0 0] 126) := ⟨_, rfl⟩
  have hb0 : Below w.heap.size w W0 := by rw [hW0]; go_grown
  have hsz : W0.heap.size = w.heap.size + 1 + 1 := by rw [hW0]; simp
  have ca : W0.cell? ⟨w.heap.size, 0, none⟩ = some (.slice A n c) := by rw [hW0]; exact keepc (below_new _ _) (by simp) (by simp)
  have hbk : Blk W0 (w.heap.size + 1) 126 #[.slice none 0 0] := by
    have := Blk.new (w.alloc (.cells #[.slice A n c] 126)) 126 #[.slice none 0 0]
    simp only [World.size_alloc] at this
    rw [hW0]; exact this
  rw [← hW0]
  have HB0 := Lib.hid hb0
  have HSZ := Lib.hid hsz
  have HBK := Lib.hid hbk
  have HA := Lib.hid ca
  clear hW0 hb0 hbk ca hsz
  go_loopw [6, 7, 15] (fun s6 s7 s15 wr => ∃ (j : Nat), s15 = .int .i64 j ∧ s6 = .bool (lostV x K j) ∧ j ≤ n ∧
      OwnR wr W0.heap.size 28 okW s7 (j - a) ((lows W64 (j - a) (x / 2 ^ K)).map wv) ∧ Below W0.heap.size W0 wr) (fun _ _ s _ => n - (intOf s).toNat)
  case atStart => exact ⟨0, rfl, by rw [HL0.out], by omega, by rw [Nat.zero_sub]; exact OwnR.nil _ _ _ _, Below.refl _ _⟩
  case round =>
    obtain ⟨j, rfl, rfl, hj, hu, hbel⟩ := hrel
    obtain ⟨A7, c7, hsh, _⟩ := hu.shape
    subst hsh
    have HU := Lib.hid hu
    have HBE := Lib.hid hbel
    have ca := keepc hbel (by rw [HSZ.out]; omega) HA.out
    have hszr := hbel.size
    have HBW : Hid (Below w.heap.size w wr) := keepb HB0.out hbel
    clear hu hbel
    by_cases hlt : j < n
    · obtain ⟨g, o, rfl, hcx⟩ := (HL.out.below HBW.out).word hlt
      have t2 : decide ((j : Int) < n) = true := by simp; omega
      have t2' : decide (j < n) = true := by simp; omega
      have hlx : (j : Int) < n := by omega
      have hX : x / W64 ^ j % W64 < W64 := Nat.mod_lt _ (by unfold W64; omega)
      by_cases hja : j < a
      · have HLO := Lib.hid (lost_low (x := x) (K := K) (i := j) (by rw [← HKA.out]; exact hja))
        have t3 : decide ((j : Int) < a) = true := by simp; omega
        have t3' : decide (j < a) = true := by simp; omega
        have hne := ne_dec (x / W64 ^ j % W64)
        have hem : j - a = 0 ∧ j + 1 - a = 0 := by omega
        generalize x / W64 ^ j % W64 = X at *
        generalize decide (X ≠ 0) = nz at *
        generalize lostV x K j = lj at *
        cases lj
        all_goals
          go_wp2_with fail
          go_roundw
          case rel => exact ⟨j + 1, by go_num, by rw [HLO.out]; simp, by omega, by rw [hem.2]; have := HU.out; rw [hem.1] at this; rw [hem.1]; exact this, HBE.out⟩
          case measure => simp [intOf]; omega
      · have t3 : decide ((j : Int) < a) = false := by simp; omega
        have t3' : decide (j < a) = false := by simp; omega
        have HLN := Lib.hid (lows_next (x := x) HKA.out HKR.out (show a ≤ j by omega))
        have hja1 : j + 1 - a = j - a + 1 := by omega
        have hw := (fun W hb => word_nat _ x (j + 1) W (HV.out.below (w' := W) hb) (by omega))
        have ej : ((j + 1 : Nat) : Int) = (j : Int) + 1 := by omega
        simp only [ej] at hw
        have HWD := Lib.hid hw
        have HSH := Lib.hid (fun W => shrp x j r hr64 W)
        have HOK : Hid (x / 2 ^ (64 * j + r) % W64 < W64) := Lib.hid (Nat.mod_lt _ (by unfold W64; omega))
        have hone : IntKind.u64.wrap (2 ^ r) = ((2 ^ r : Nat) : Int) := by
          have h := shl_w 1 r
          rw [Nat.one_mul, Nat.mod_eq_of_lt (by rw [W64_pow]; exact Nat.pow_lt_pow_right (by omega) hr64)] at h
          rw [← Int.one_mul ((2 : Int) ^ r)]
          exact h
        have hsub : IntKind.u64.wrap (((2 ^ r : Nat) : Int) - 1) = ((2 ^ r - 1 : Nat) : Int) := by
          have h1 : 0 < 2 ^ r := Nat.pow_pos (by omega)
          have h2 : 2 ^ r < W64 := by rw [W64_pow]; exact Nat.pow_lt_pow_right (by omega) hr64
          rw [show ((2 ^ r : Nat) : Int) - 1 = ((2 ^ r - 1 : Nat) : Int) by omega]
          exact wrapN _ (by omega)
        have hmask := maskR (x / W64 ^ j % W64) r hX hr64
        have hne := ne_dec (x / W64 ^ j % W64 % 2 ^ r)
        have hcase : (j = a ∧ ((j : Int) == (a : Int)) = true ∧ lostV x K (j + 1) = (lostV x K j || decide (x / W64 ^ j % W64 % 2 ^ r ≠ 0))) ∨ (((j : Int) == (a : Int)) = false ∧ lostV x K (j + 1) = lostV x K j) := by
          by_cases h : j = a
          · left; exact ⟨h, by simp [h], by rw [HKR.out]; exact lost_at (by rw [h, HKA.out])⟩
          · right; exact ⟨by rw [beq_eq_false_iff_ne]; omega, lost_high (by rw [← HKA.out]; omega)⟩
        clear hw ej
        generalize x / W64 ^ j % W64 % 2 ^ r = Y at *
        generalize 2 ^ r - 1 = M at *
        generalize 2 ^ r = R at *
        generalize x / 2 ^ (64 * j + r) % W64 = z at *
        generalize x / W64 ^ (j + 1) % W64 = X1 at *
        generalize x / W64 ^ j % W64 = X at *
        generalize decide (Y ≠ 0) = nz at *
        generalize hlj : lostV x K j = lj at *
        obtain ⟨nl, HNL, hnl⟩ : ∃ nl, Hid (lostV x K (j + 1) = nl) ∧ ((lj = true ∧ nl = true) ∨ (lj = false ∧ ((j : Int) == (a : Int)) = true ∧ nl = nz) ∨ (lj = false ∧ ((j : Int) == (a : Int)) = false ∧ nl = false)) := by
          rcases hcase with ⟨_, h1, h2⟩ | ⟨h1, h2⟩
          · refine ⟨_, Lib.hid h2, ?_⟩
            cases lj <;> simp [h1]
          · refine ⟨_, Lib.hid h2, ?_⟩
            cases lj <;> simp [h1]
        clear hcase hlj hX
        rcases hnl with ⟨rfl, rfl⟩ | ⟨rfl, tq, rfl⟩ | ⟨rfl, tq, rfl⟩
        all_goals
          go_wp2_with fail
          refine (HWD.out _ HBW.out).mono ?_
          rintro e w2 ⟨rfl, hb2⟩
          have HU2 := Lib.hid (HU.out.below hb2)
          have HB2 := Lib.hid (keepb HBE.out hb2)
          clear hb2
          go_wp2_with fail
          refine (HSH.out _).mono ?_
          rintro e w3 ⟨⟨hi, rfl⟩, hb3⟩
          have HU3 := Lib.hid (HU2.out.below hb3)
          have HB3 := Lib.hid (keepb HB2.out hb3)
          have hsz3 := HB3.out.size
          have fld := fun W => field_lo hi z W
          clear hb3
          go_wp2_with (at_builtin; refine wpList_app ei_u64 okW0 rfl (.tmp 36) (.tmp 47) rfl W0.heap.size _ _ _ rfl (HU3.out.below (below_new _ _)) _ _ _ _ _ rfl (RV.fresh w3 28 [wv z]) (fun u hu => by simp at hu; subst hu; rfl) (show j - a + 1 ≤ _ by omega) (show (j - a + 1) * 8 ≤ _ by omega) (Nat.le_trans hsz3 (below_new _ _).size) ?_; intro A3 c3 w4 hu4 hg4 ha4)
          go_roundw
          case rel => exact ⟨j + 1, by go_num, by rw [HNL.out], by omega, by rw [HLN.out, List.map_append, hja1]; exact hu4, (HB3.out.alloc hsz3 _).grown hg4 (by simp; omega) (fun t ht => (HU3.out.lt t ht).1)⟩
          case measure => simp [intOf]; omega
    · obtain rfl : j = n := by omega
      have t2 : decide ((j : Int) < j) = false := by simp
      have hc7 : j - a ≤ c7 := by
        obtain ⟨_, _, he3, hc3⟩ := HU.out.shape
        have := (Value.slice.inj he3).2.2; omega
      have HVV := Lib.hid (show fval W64 (lows W64 (j - a) (x / 2 ^ K)) = x / 2 ^ K by rw [HKA.out]; exact HSE.out)
      have HMD := Lib.hid (made_nat2 A7 (j - a) c7 (x / 2 ^ K) (lows W64 (j - a) (x / 2 ^ K)) wr (lows_length _ _ _) (lows_figs _ _ _ (by unfold W64; omega)) HVV.out (RT.of_own HU.out) hc7 (by omega))
      have HBKr : Hid (Blk wr (w.heap.size + 1) 126 #[.slice none 0 0]) := HBK.out.below HBE.out HBK.out.lt
      clear hlt hc7
      rw [HLE.out]
      generalize hdd : decide (x % 2 ^ K ≠ 0) = dd at *
      have HDD := Lib.hid hdd
      clear hdd
      go_wp2_with fail
      refine HMD.out.mono ?_
      rintro e w4 ⟨n4, rfl, hl4, hb4⟩
      have HB4 := Lib.hid (keepb HBW.out hb4)
      have HBK4 : Hid (Blk w4 (w.heap.size + 1) 126 #[.slice none 0 0]) := HBKr.out.below hb4 HBKr.out.lt
      have HV4 := Lib.hid hl4
      have hc5 := HBK4.out.cell 0
      have hf5 := HBK4.out.frozen 0
      simp at hc5
      have hp := HBK4.out.put (i := 0) (by simp)
      clear hb4 hl4
      go_wp2_with fail
      exact bodyPost_ret (v := .tuple #[.agg #[.slice A7 n4 c7], .bool dd]) (by simp [results, Tryz.results103, go_sem, hp]) rfl ⟨_, _, _, by rw [HDD.out], HV4.out.set HBK4.out (by decide) _, HB4.out.setCell (p := ⟨w.heap.size + 1, 0, Option.none⟩) (show w.heap.size ≤ w.heap.size + 1 by omega) _⟩
end Go.Proofs.YtjggmdlecdbeeaaGreatDoor
