/- The contract of natural numbers' Shl. -/
import Derived.Test.YtjggmdlecdbeeaaGreatDoorNatK
namespace Go.Proofs.YtjggmdlecdbeeaaGreatDoor
open Go.RowKit
set_option linter.unusedSimpArgs false
set_option linter.unusedVariables false

theorem shl_step {x k lo hi i p : Nat} {acc l : List Nat} (h1 : x * p = lo + W64 * hi) (hl : acc.length = i) (hi' : i < l.length) (hx : l.getD i 0 = x)
    (h : fval W64 acc + W64 ^ i * k = fval W64 (l.take i) * p) : fval W64 (acc ++ [lo + k]) + W64 ^ (i + 1) * hi = fval W64 (l.take (i + 1)) * p := by
  have ht : l.take (i + 1) = l.take i ++ [x] := by
    rw [List.take_succ_eq_append_getElem hi']
    congr 2
    rw [← hx]; simp [List.getD, hi']
  rw [ht, fval_snoc, fval_snoc, hl, List.length_take, Nat.min_eq_left (by omega), Nat.pow_succ]
  have e1 : W64 ^ i * (x * p) = W64 ^ i * lo + W64 ^ i * W64 * hi := by rw [h1, Nat.mul_add, Nat.mul_assoc]
  rw [Nat.mul_add, Nat.add_mul, Nat.mul_assoc (W64 ^ i) x p]
  omega
theorem shl_word {X r : Nat} (hX : X < W64) (hr : r < 64) : X * 2 ^ r / W64 < 2 ^ r ∧ (∃ m, X * 2 ^ r % W64 = m * 2 ^ r) ∧ ∀ c, c < 2 ^ r → X * 2 ^ r % W64 + c < W64 := by
  have hp : 0 < 2 ^ r := Nat.pow_pos (by omega)
  have hW : W64 = 2 ^ (64 - r) * 2 ^ r := by rw [← Nat.pow_add, show 64 - r + r = 64 by omega]; rfl
  have h1 : X * 2 ^ r % W64 = X % 2 ^ (64 - r) * 2 ^ r := by rw [hW, Nat.mul_mod_mul_right]
  refine ⟨Nat.div_lt_of_lt_mul (Nat.mul_lt_mul_of_pos_right hX hp), ⟨_, h1⟩, fun c hc => ?_⟩
  have h2 : X % 2 ^ (64 - r) + 1 ≤ 2 ^ (64 - r) := Nat.mod_lt _ (Nat.pow_pos (by omega))
  have h3 := Nat.mul_le_mul_right (2 ^ r) h2
  rw [← hW, Nat.add_mul, Nat.one_mul, ← h1] at h3
  omega
theorem fval_noughts (a : Nat) (l : List Nat) : fval W64 (List.replicate a 0 ++ l) = W64 ^ a * fval W64 l := by
  rw [fval_append, fval_zero (fun d hd => (List.mem_replicate.1 hd).2), List.length_replicate, Nat.zero_add]
theorem zs_map (n : Nat) : zs (.int .u64 0) n = (List.replicate n 0).map wv := by unfold zs; rw [List.map_replicate]; rfl
theorem Figs.noughts (a : Nat) : Figs W64 (List.replicate a 0) := fun d hd => by rw [(List.mem_replicate.1 hd).2]; unfold W64; omega
theorem shlp (X r : Nat) (hX : X < W64) (hr : r < 64) (w : World) :
    Calls Tryz.prog 118 #[.agg #[wv 0, wv X], .int .i64 (r : Int)] w fun e w' => e = .returned (.agg #[wv (X * 2 ^ r / W64), wv (X * 2 ^ r % W64)]) ∧ Below w.heap.size w w' := by
  have h := shl_pair X (r : Int) (Nat.lt_of_lt_of_le hX (by unfold W64 P128; decide)) w
  have hc : cutN (r : Int) = r := by unfold cutN; omega
  have h1 : pHi X = 0 := Nat.div_eq_of_lt hX
  have h2 : pLo X = X := Nat.mod_eq_of_lt hX
  have h3 : X * 2 ^ r < P128 := Nat.lt_of_lt_of_le (Nat.mul_lt_mul'' hX (Nat.pow_lt_pow_right (by omega) hr)) (by unfold W64 P128; decide)
  unfold pv at h
  rw [hc, Nat.mod_eq_of_lt h3, h1, h2] at h
  exact h

set_option maxRecDepth 100000 in
set_option maxHeartbeats 4000000 in
theorem shl_nat (v : Value) (x : Nat) (k : Int) (w : World) (hv : NatW w v x) (hx : blen x ≤ 8192) (hk : k ≤ 9223372036854775807) :
    Calls Tryz.prog 101 #[v, .int .i64 k] w (NatB (x * 2 ^ k.toNat) w) := by
  have HV := Lib.hid hv
  obtain ⟨A, n, c, rfl, hl⟩ := hv
  have hn := natl_len hl
  have hz := natl_zero hl
  have hK : max k 0 = (k.toNat : Int) := by omega
  have hKI : (k.toNat : Int) ≤ 9223372036854775807 := by omega
  generalize k.toNat = K at *
  have HL := Lib.hid hl
  have hlen := fun W hb => len_nat _ x W (HV.out.below (w' := W) hb) (Nat.le_trans hx (by decide))
  have HLEN := Lib.hid hlen
  clear hl hlen
  have hn1 : n ≤ 20000 := by omega
  by_cases h0 : x = 0
  · obtain rfl : n = 0 := by omega
    subst h0
    have HP : Hid (NatB (0 * 2 ^ K) w = NatE 0 w) := by funext e w'; rw [Nat.zero_mul]; unfold NatB; rw [if_pos (by decide)]
    clear hz hn hx
    go_enter Tryz.func101, Tryz.ntmps101
    go_wp2_with fail
    exact bodyPost_ret (v := .tuple #[.agg #[.slice none 0 0], .nilIface]) (by simp [results, Tryz.results101, go_sem]) rfl (by rw [HP.out]; exact ⟨_, rfl, NatW.nil _, by go_grown⟩)
  · have hb := blen_mul x K h0
    have t0 : ((n : Int) == 0) = false := by rw [beq_eq_false_iff_ne]; omega
    have t0' : (n == 0) = false := by rw [beq_eq_false_iff_ne]; omega
    have hbl : blen x ≤ 8192 := hx
    by_cases hov : 8192 - (blen x : Int) < K
    · have HP : Hid (NatB (x * 2 ^ K) w = NatF 11 w) := by funext e w'; unfold NatB; rw [if_neg (by omega)]
      have t1 : decide (8192 - (blen x : Int) < K) = true := by simpa using hov
      clear hz hn hx h0 hb hov
      generalize blen x = bx at *
      go_enter Tryz.func101, Tryz.ntmps101
      go_wp2_with fail
      refine (HLEN.out _ (by go_grown)).mono ?_
      rintro e w1 ⟨rfl, hb1⟩
      have HBK1 : Hid (Blk w1 (w.heap.size + 1) 126 #[.slice none 0 0]) := (by have := Blk.new (w.alloc (.cells #[.slice A n c] 126)) 126 #[.slice none 0 0]; simp only [World.size_alloc] at this; exact this.below hb1 (by simp))
      have HB1 := Lib.hid (keepb (show Below w.heap.size w _ by go_grown) hb1)
      have hc1 := HBK1.out.cell 0
      have hf1 := HBK1.out.frozen 0
      simp at hc1
      have hp := HBK1.out.put (i := 0) (by simp)
      clear hb1
      go_wp2_with fail
      exact bodyPost_ret (v := .tuple #[.agg #[.slice none 0 0], enoV 11]) (by simp [results, Tryz.results101, go_sem, hp]) rfl (by rw [HP.out]; exact ⟨rfl, HB1.out.setCell (p := ⟨w.heap.size + 1, 0, Option.none⟩) (show w.heap.size ≤ w.heap.size + 1 by omega) _⟩)
    · have HP : Hid (NatB (x * 2 ^ K) w = NatE (x * 2 ^ K) w) := by funext e w'; unfold NatB; rw [if_pos (by omega)]
      have t1 : decide (8192 - (blen x : Int) < K) = false := by simpa using hov
      have hK8 : K ≤ 8192 := by omega
      obtain ⟨a, ha⟩ : ∃ a, a = K / 64 := ⟨_, rfl⟩
      obtain ⟨r, hr⟩ : ∃ r, r = K % 64 := ⟨_, rfl⟩
      have e64 : (K : Int) / 64 = (a : Int) := by omega
      have e65 : (K : Int) % 64 = (r : Int) := by omega
      have hr64 : r < 64 := by omega
      have ha1 : a ≤ 128 := by omega
      have HKA : Hid (2 ^ K = W64 ^ a * 2 ^ r) := Lib.hid (by rw [W64_pow, ← Nat.pow_mul, ← Nat.pow_add]; congr 1; omega)
      have hmk := fun W => run_mk ei_u64 .i64 .i64 a (a + n + 1) (by omega) (by omega) (by omega) W
      have e2 : ((a + n + 1 : Nat) : Int) = (a : Int) + (n : Int) + 1 := by omega
      rw [e2] at hmk
      clear hz hn hx h0 hb hov e2 ha hr
      generalize blen x = bx at *
      go_enter Tryz.func101, Tryz.ntmps101
      go_wp2_with fail
      refine (HLEN.out _ (by go_grown)).mono ?_
      rintro e w1 ⟨rfl, hb1⟩
      have HBK1 : Hid (Blk w1 (w.heap.size + 1) 126 #[.slice none 0 0]) := (by have := Blk.new (w.alloc (.cells #[.slice A n c] 126)) 126 #[.slice none 0 0]; simp only [World.size_alloc] at this; exact this.below hb1 (by simp))
      have HB1 := Lib.hid (keepb (show Below w.heap.size w _ by go_grown) hb1)
      have hsz := hb1.size
      simp at hsz
      have ca : w1.cell? ⟨w.heap.size, 0, none⟩ = some (.slice A n c) := keepc hb1 (by simp; omega) (keepc (below_new _ _) (by simp) (by simp))
      have ca2 : (w1.alloc (.cells (zs (.int .u64 0) (a + n + 1)).toArray 28)).cell? ⟨w.heap.size, 0, none⟩ = some (.slice A n c) := keepc (below_new _ _) (by omega) ca
      have HO := Lib.hid (made_own (e := 28) (z := .int .u64 0) (ok := okW) w1 w1.heap.size (Nat.le_refl _) a (a + n + 1) (by omega) (by omega) okW0)
      clear hb1
      go_wp2_with fail
      have HA := Lib.hid ca
      have HF := Lib.hid HL
      obtain ⟨l, hf, hln, hrr, hcc⟩ := HL.out
      have HLF := Lib.hid hf
      have HLN := Lib.hid hln
      clear ca ca2 hf hln hrr hcc
      go_loopw [6, 7, 40] (fun s6 s7 s40 wr => ∃ (j q : Nat) (acc : List Nat), s40 = .int .i64 j ∧ s7 = wv q ∧ q < 2 ^ r ∧ j ≤ n ∧ acc.length = j ∧ Figs W64 acc ∧ fval W64 acc + W64 ^ j * q = fval W64 (l.take j) * 2 ^ r ∧
          OwnR wr w1.heap.size 28 okW s6 (a + j) ((List.replicate a 0).map wv ++ acc.map wv) ∧ Below w1.heap.size w1 wr) (fun _ _ s _ => n - (intOf s).toNat)
      case atStart => exact ⟨0, 0, [], rfl, rfl, Nat.pow_pos (by omega), by omega, rfl, Figs.nil _, by simp [fval], by rw [List.map_nil, List.append_nil, ← zs_map]; exact HO.out, below_new _ _⟩
      case round =>
        obtain ⟨j, q, acc, rfl, rfl, hq, hj, hal, hfa, hinv, hu, hbel⟩ := hrel
        obtain ⟨A6, c6, hsh, _⟩ := hu.shape
        subst hsh
        have HQ := Lib.hid hq
        have HAL := Lib.hid hal
        have HFA := Lib.hid hfa
        have HINV := Lib.hid hinv
        have HU := Lib.hid hu
        have HBE := Lib.hid hbel
        have ca := keepc hbel (by omega) HA.out
        have hszr := hbel.size
        have HBW : Hid (Below w.heap.size w wr) := keepb HB1.out hbel
        clear hq hal hfa hinv hu hbel
        by_cases hlt : j < n
        · obtain ⟨g, o, rfl, hcx⟩ := (HL.out.below HBW.out).word hlt
          have hjl : j < l.length := by rw [HLN.out]; exact hlt
          have HLX := Lib.hid (HLF.out.get j)
          have hX : x / W64 ^ j % W64 < W64 := Nat.mod_lt _ (by unfold W64; omega)
          have t2 : decide ((j : Int) < n) = true := by simp; omega
          have t2' : decide (j < n) = true := by simp; omega
          have hlx : (j : Int) < n := by omega
          generalize x / W64 ^ j % W64 = X at *
          have HSH := Lib.hid (fun W => shlp X r hX hr64 W)
          obtain ⟨h1, h2, h3⟩ := shl_word hX hr64
          have ho := orN h2 HQ.out (h3 q HQ.out)
          have HZ := Lib.hid (h3 q HQ.out)
          have HX2 := Lib.hid (show X * 2 ^ r = X * 2 ^ r % W64 + W64 * (X * 2 ^ r / W64) from (Nat.mod_add_div _ _).symm)
          have HST := Lib.hid (shl_step HX2.out HAL.out hjl HLX.out HINV.out)
          have HHI := Lib.hid h1
          clear h1 h2 h3 hX hjl
          generalize X * 2 ^ r % W64 = lo at *
          generalize X * 2 ^ r / W64 = hi at *
          generalize lo + q = z at *
          go_wp2_with fail
          refine (HSH.out _).mono ?_
          rintro e w2 ⟨rfl, hb2⟩
          have HU2 := Lib.hid (HU.out.below hb2)
          have HB2 := Lib.hid (keepb HBE.out hb2)
          have hsz2 := hb2.size
          clear hb2 ca hcx
          go_upto_region 13 with fail
          obtain ⟨W3, hW3⟩ : ∃ W3, W3 = w2.alloc (.cells #[wv hi, wv z] 168) := ⟨_, rfl⟩
          have HBP : Hid (Blk W3 w2.heap.size 168 #[wv hi, wv z]) := Lib.hid (by rw [hW3]; exact Blk.new _ _ _)
          have HU3 : Hid (OwnR W3 w1.heap.size 28 okW (.slice A6 (a + j) c6) (a + j) ((List.replicate a 0).map wv ++ acc.map wv)) := Lib.hid (by rw [hW3]; exact HU2.out.below (below_new _ _))
          have HB3 : Hid (Below w1.heap.size w1 W3) := Lib.hid (by rw [hW3]; exact HB2.out.alloc HB2.out.size _)
          have hsz3 := HB3.out.size
          have p1 : W3.cell? ⟨w2.heap.size, 1, none⟩ = some (wv z) := by rw [HBP.out.cell]; rfl
          rw [← hW3]
          clear hW3
          go_wp2_with (at_builtin; refine wpList_app ei_u64 okW0 rfl (.tmp 54) (.tmp 57) rfl w1.heap.size _ _ _ rfl (HU3.out.below (below_new _ _)) _ _ _ _ _ rfl (RV.fresh W3 28 [wv z]) (fun u hu => by simp at hu; subst hu; rfl) (show a + j + 1 ≤ _ by omega) (show (a + j + 1) * 8 ≤ _ by omega) (Nat.le_trans hsz3 (below_new _ _).size) ?_; intro A3 c3 w3 hu3 hg3 ha3; have p0 : w3.cell? ⟨w2.heap.size, 0, none⟩ = some (wv hi) := (((HBP.out.alloc _).grown hg3 (fun h => HU3.out.apart HBP.out (by decide) h.symm)).cell 0).trans rfl)
          go_roundw
          case rel => exact ⟨j + 1, hi, acc ++ [z], by go_num, rfl, HHI.out, by omega, by simp [HAL.out], HFA.out.snoc HZ.out, HST.out, by rw [List.map_append, ← List.append_assoc]; exact hu3, (HB3.out.alloc hsz3 _).grown hg3 (by simp; omega) (fun t ht => (HU3.out.lt t ht).1)⟩
          case measure => simp [intOf]; omega
        · obtain rfl : j = n := by omega
          have t2 : decide ((j : Int) < j) = false := by simp
          have HQW : Hid (q < W64) := Lib.hid (Nat.lt_trans HQ.out (by rw [W64_pow]; exact Nat.pow_lt_pow_right (by omega) hr64))
          have HVV : Hid (fval W64 (List.replicate a 0 ++ (acc ++ [q])) = x * 2 ^ K) := Lib.hid (by
            rw [fval_noughts, fval_snoc, HAL.out, HINV.out, ← HLN.out, List.take_length, HLF.out.val, HKA.out, Nat.mul_left_comm])
          clear hlt
          go_wp2_with (at_builtin; refine wpList_app ei_u64 okW0 rfl (.tmp 62) (.tmp 64) rfl w1.heap.size _ _ _ rfl (HU.out.below (below_new _ _)) _ _ _ _ _ rfl (RV.fresh wr 28 [wv q]) (fun u hu => by simp at hu; subst hu; rfl) (show a + j + 1 ≤ _ by omega) (show (a + j + 1) * 8 ≤ _ by omega) (Nat.le_trans hszr (below_new _ _).size) ?_; intro A3 c3 w3 hu3 hg3 ha3)
          have hc3 : a + j + 1 ≤ c3 := by
            obtain ⟨_, _, he3, hc3⟩ := hu3.shape
            have := (Value.slice.inj he3).2.2; omega
          have HB3 := Lib.hid (show Below w1.heap.size w1 w3 from (HBE.out.alloc hszr _).grown hg3 (by simp; omega) (fun t ht => (HU.out.lt t ht).1))
          have HMD := Lib.hid (made_nat2 A3 (a + j + 1) c3 (x * 2 ^ K) (List.replicate a 0 ++ (acc ++ [q])) w3 (by simp [HAL.out]; omega) ((Figs.noughts a).append (HFA.out.snoc HQW.out)) HVV.out (by rw [List.map_append, List.map_append, ← List.append_assoc]; exact RT.of_own hu3) hc3 (by omega))
          have HBK3 : Hid (Blk w3 (w.heap.size + 1) 126 #[.slice none 0 0]) := HBK1.out.below HB3.out HBK1.out.lt
          clear hu3 hg3 ha3 hc3
          refine HMD.out.mono ?_
          rintro e w4 ⟨n4, rfl, hl4, hb4⟩
          have HB4 := Lib.hid (keepb (keepb HB1.out HB3.out) hb4)
          have HBK4 : Hid (Blk w4 (w.heap.size + 1) 126 #[.slice none 0 0]) := HBK3.out.below hb4 HBK3.out.lt
          have HV4 := Lib.hid hl4
          have hc5 := HBK4.out.cell 0
          have hf5 := HBK4.out.frozen 0
          simp at hc5
          have hp := HBK4.out.put (i := 0) (by simp)
          clear hb4 hl4
          go_wp2_with fail
          exact bodyPost_ret (v := .tuple #[.agg #[.slice A3 n4 c3], .nilIface]) (by simp [results, Tryz.results101, go_sem, hp]) rfl (by rw [HP.out]; exact ⟨_, rfl, ⟨_, _, _, rfl, HV4.out.set HBK4.out (by decide) _⟩, HB4.out.setCell (p := ⟨w.heap.size + 1, 0, Option.none⟩) (show w.heap.size ≤ w.heap.size + 1 by omega) _⟩)
end Go.Proofs.YtjggmdlecdbeeaaGreatDoor
