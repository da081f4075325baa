/- The contract of wide.Parse. -/
import Derived.Test.YtgihkmofpncobaaDoorNatC
import Derived.Test.YtgihkmofpncobaaDoorTextP
import Derived.Deep.LoopGhost
namespace Go.Proofs.YtgihkmofpncobaaDoor
open Go.RowKit
set_option linter.unusedSimpArgs false
set_option linter.unusedVariables false

abbrev spotV (no at_ : Int) : Value := .iface 60 (.agg #[.int .i64 no, .int .i64 at_])
def dn (s : List UInt8) (i : Nat) : Nat := (s.getD i 0).toNat
theorem dn_get (s : List UInt8) (i : Nat) (h : i < s.length) : ((⟨s.toArray⟩ : ByteArray)[i]'h).toNat = dn s i := by
  unfold dn; simp [List.getD, h]; rfl
theorem dn_lt (s : List UInt8) (i : Nat) : dn s i < 256 := UInt8.toNat_lt _
theorem isD_dn (s : List UInt8) (i : Nat) (h : i < s.length) : isD s[i] = decide (48 ≤ dn s i ∧ dn s i ≤ 57) := by
  unfold isD dn; simp [List.getD, h]

/-- What Parse answers of letters that are no digits. -/
def wrongV (s : List UInt8) : Option Nat := if s = [] then some 0 else wrongAt s

set_option maxRecDepth 100000 in
theorem parse_no (s : List UInt8) (i : Nat) (w : World) (hs : s.length ≤ 1000000000000000) (hw : wrongV s = some i) :
    Calls Tryd.prog 11 #[.string ⟨s.toArray⟩] w fun e w' => e = .returned (.tuple #[nilN, spotV 10 i]) ∧ Below w.heap.size w w' := by
  have HW := Lib.hid hw
  clear hw
  go_enter Tryd.func11, Tryd.ntmps11
  go_wp2_with fail
  go_loop [12] (fun s12 => ∃ j : Nat, s12 = .int .i64 j ∧ j ≤ s.length ∧ ∀ k (h : k < s.length), k < j → isD s[k] = true) (fun s12 => s.length - (intOf s12).toNat)
  case atStart => exact ⟨0, rfl, by omega, fun k _ h => absurd h (by omega)⟩
  case round =>
    obtain ⟨j, rfl, hj, hall⟩ := hrel
    have HALL := Lib.hid hall
    clear hall
    by_cases hlt : j < s.length
    · have hb := dn_get s j hlt
      have hD := isD_dn s j hlt
      have hx := dn_lt s j
      have HD := Lib.hid hD
      clear hD
      generalize dn s j = x at *
      have t0 : decide ((j : Int) < s.length) = true := by simp; omega
      have t0' : decide (j < s.length) = true := by simp; omega
      by_cases hd : 48 ≤ x ∧ x ≤ 57
      · have HM : Hid (∀ k (h : k < s.length), k < j + 1 → isD s[k] = true) := fun k h hk => by
          rcases Nat.lt_or_ge k j with h1 | h1
          · exact HALL.out k h h1
          · obtain rfl : k = j := by omega
            rw [HD.out]; simpa using hd
        obtain ⟨h48, h57⟩ := hd
        have t1 : decide ((x : Int) < 48) = false := by simp; omega
        have t2 : decide ((57 : Int) < x) = false := by simp; omega
        go_wp2_with fail
        go_round
        case rel => exact ⟨j + 1, by go_num, by omega, HM.out⟩
        case measure => simp [intOf]; omega
      · have hij : wrongV s = some j := by
          unfold wrongV
          rw [if_neg (by intro h; rw [h] at hlt; simp at hlt)]
          exact wrongAt_some hlt (fun k h hk => HALL.out k h hk) (by rw [HD.out]; simpa using hd)
        obtain rfl : j = i := by have := HW.out; rw [hij] at this; injection this
        have hor : decide ((x : Int) < 48) = true ∨ (decide ((x : Int) < 48) = false ∧ decide ((57 : Int) < x) = true) := by
          by_cases h : x < 48
          · left; simp; omega
          · right; exact ⟨by simp; omega, by simp; omega⟩
        clear hd hij
        rcases hor with t1 | ⟨t1, t2⟩
        all_goals
          go_wp2_with fail
          exact bodyPost_ret (v := .tuple #[nilN, spotV 10 j]) (by simp [results, Tryd.results11, go_sem]) rfl ⟨rfl, by go_grown⟩
    · obtain rfl : j = s.length := by omega
      have hse : s = [] := by
        have h := HW.out
        unfold wrongV at h
        by_cases h0 : s = []
        · exact h0
        · rw [if_neg h0, wrongAt_none.2 (fun c hc => by obtain ⟨k, hk, rfl⟩ := List.mem_iff_getElem.1 hc; exact HALL.out k hk hk)] at h
          cases h
      subst hse
      obtain rfl : i = 0 := by have := HW.out; unfold wrongV at this; simp at this; exact this.symm
      clear hlt
      go_wp2_with fail
      exact bodyPost_ret (v := .tuple #[nilN, spotV 10 0]) (by simp [results, Tryd.results11, go_sem]) rfl ⟨rfl, by go_grown⟩

theorem dropZ_val (s : List UInt8) : dval (s.dropWhile (· == 48)) = dval s := by
  induction s with
  | nil => rfl
  | cons c s ih =>
    by_cases h : c = 48
    · subst h
      rw [List.dropWhile_cons_of_pos (by simp), ih]
      have := dval_append [48] s
      simp only [List.singleton_append] at this
      rw [this]
      have h0 : dval [48] = 0 := rfl
      rw [h0]; simp
    · rw [List.dropWhile_cons_of_neg (by simpa using h)]
theorem dropZ_len (s : List UInt8) : (s.dropWhile (· == 48)).length ≤ s.length := (List.dropWhile_sublist _).length_le
theorem dropZ_mem (s : List UInt8) : ∀ c ∈ s.dropWhile (· == 48), c ∈ s := fun c hc => (List.dropWhile_sublist _).subset hc
theorem dropZ_head (s : List UInt8) (h : s.dropWhile (· == 48) ≠ []) : (s.dropWhile (· == 48)).getD 0 0 ≠ 48 := by
  induction s with
  | nil => simp at h
  | cons c s ih =>
    by_cases hc : c = 48
    · subst hc
      rw [List.dropWhile_cons_of_pos (by simp)] at h ⊢
      exact ih h
    · rw [List.dropWhile_cons_of_neg (by simpa using hc)]
      simpa [List.getD] using hc
/-- Digits without a nought ahead say a great number. -/
theorem dval_ge (s : List UInt8) (hd : ∀ c ∈ s, isD c = true) (h0 : s ≠ []) (h : s.getD 0 0 ≠ 48) : 10 ^ (s.length - 1) ≤ dval s := by
  cases s with
  | nil => exact absurd rfl h0
  | cons c s =>
    have h1 := of_decide_eq_true (hd c (by simp))
    have h2 : c ≠ 48 := by simpa [List.getD] using h
    have h3 : c.toNat ≠ 48 := fun h => h2 (UInt8.toNat_inj.1 h)
    have := dval_append [c] s
    simp only [List.singleton_append] at this
    rw [this]
    have h4 : dval [c] = c.toNat - 48 := by simp [dval]
    rw [h4, List.length_cons, Nat.add_sub_cancel]
    have h5 : 1 * 10 ^ s.length ≤ (c.toNat - 48) * 10 ^ s.length := Nat.mul_le_mul_right _ (by omega)
    omega

theorem pow_cmp (k : Nat) : 2 ^ (83 * k) ≤ 10 ^ (25 * k) := by
  rw [Nat.pow_mul, Nat.pow_mul]
  exact Nat.pow_le_pow_left (by decide) k
theorem pow_bits {x n k : Nat} (h : 10 ^ n ≤ x) (hn : 25 * k ≤ n) : 83 * k < blen x := by
  have h1 : 2 ^ (83 * k) ≤ x := Nat.le_trans (pow_cmp k) (Nat.le_trans (Nat.pow_le_pow_right (by decide) hn) h)
  rcases Nat.lt_or_ge (83 * k) (blen x) with h2 | h2
  · exact h2
  · have := blen_le.1 h2
    omega
theorem pow_big {x n : Nat} (h : 10 ^ n ≤ x) (hn : 2500 ≤ n) : ¬ blen x ≤ 8192 := by
  have := pow_bits (k := 100) h (by omega)
  omega

set_option maxRecDepth 100000 in
set_option maxHeartbeats 4000000 in
theorem parse_ok (s : List UInt8) (w : World) (hs : s.length ≤ 1000000000000000) (hne : s ≠ []) (hd : ∀ c ∈ s, isD c = true) :
    Calls Tryd.prog 11 #[.string ⟨s.toArray⟩] w (NatB (dval s) w) := by
  have HD := Lib.hid hd
  have h48 : ((48 : UInt8).toNat) < 128 := by decide
  have HT := Lib.hid (fun W => Tryd.strings_TrimLeft_one ⟨s.toArray⟩ 48 h48 W)
  have htl : Lib.trimLeftB (⟨s.toArray⟩ : ByteArray).data.toList 48 = s.dropWhile (· == 48) := rfl
  rw [htl] at HT
  have hts : (s.dropWhile (· == 48)).length ≤ s.length := dropZ_len s
  have HTD : Hid (∀ c ∈ s.dropWhile (· == 48), isD c = true) := fun c hc => hd c (dropZ_mem s c hc)
  have HTV := Lib.hid (dropZ_val s)
  have HBIG : Hid (2500 < (s.dropWhile (· == 48)).length → NatB (dval s) w = NatF 11 w) := fun h => by
    have h1 := dval_ge _ HTD.out (by intro h0; rw [h0] at h; simp at h) (dropZ_head s (by intro h0; rw [h0] at h; simp at h))
    rw [HTV.out] at h1
    have h2 := pow_big h1 (by omega)
    funext e w'
    unfold NatB
    rw [if_neg h2]
  have hse : s.isEmpty = false := by cases s <;> simp_all
  clear hd htl
  go_enter Tryd.func11, Tryd.ntmps11
  go_wp2_with fail
  go_loop [12] (fun s12 => ∃ j : Nat, s12 = .int .i64 j ∧ j ≤ s.length) (fun s12 => s.length - (intOf s12).toNat)
  case atStart => exact ⟨0, rfl, by omega⟩
  case round =>
    obtain ⟨j, rfl, hj⟩ := hrel
    by_cases hlt : j < s.length
    · have hb := dn_get s j hlt
      have hx : 48 ≤ dn s j ∧ dn s j ≤ 57 := by have := isD_dn s j hlt; rw [HD.out _ (List.getElem_mem hlt)] at this; simpa using this.symm
      obtain ⟨h48', h57⟩ := hx
      generalize dn s j = x at *
      have t0 : decide ((j : Int) < s.length) = true := by simp; omega
      have t0' : decide (j < s.length) = true := by simp; omega
      have t1 : decide ((x : Int) < 48) = false := by simp; omega
      have t2 : decide ((57 : Int) < x) = false := by simp; omega
      go_wp2_with fail
      go_round
      case rel => exact ⟨j + 1, by go_num, by omega⟩
      case measure => simp [intOf]; omega
    · obtain rfl : j = s.length := by omega
      generalize s.dropWhile (· == 48) = t at *
      clear hlt hj
      go_wp2_with fail
      refine (HT.out _).mono ?_
      rintro e w' ⟨rfl, rfl⟩
      by_cases h25 : 2500 < t.length
      · have t1 : decide ((2500 : Int) < t.length) = true := by simp; omega
        have t1' : decide (2500 < t.length) = true := by simp; omega
        have HPF := Lib.hid (HBIG.out h25)
        clear h25
        go_wp2_with fail
        refine bodyPost_ret (v := .tuple #[nilN, enoV 11]) (by simp [results, Tryd.results11, go_sem]) rfl ?_
        rw [HPF.out]
        exact ⟨rfl, by go_grown⟩
      · have t1 : decide ((2500 : Int) < t.length) = false := by simp; omega
        have t1' : decide (2500 < t.length) = false := by simp; omega
        have ht25 : t.length ≤ 2500 := by omega
        clear h25 HBIG hse
        go_wp2_with fail
        go_loopg [0, 5] t.length (fun k s0 s5 wr => ∃ (a b : List UInt8) (A : Option Addr) (n c : Nat) (m : List Nat), s0 = .string ⟨b.toArray⟩ ∧ s5 = .slice A n c ∧ t = a ++ b ∧ b.length = k ∧ m.length = n ∧ Figs W64 m ∧ fval W64 m = dval a ∧ RT wr 35 A (m.map wv) ∧ n ≤ c ∧ n ≤ a.length ∧ Blk wr w.heap.size 26 #[.slice none 0 0] ∧ Below w.heap.size w wr)
        case atStart => exact ⟨[], t, none, 0, 0, [], rfl, rfl, rfl, rfl, rfl, Figs.nil _, rfl, RT.nil _ _, Nat.le_refl _, by simp, Blk.new w _ _, below_new _ _⟩
        case round =>
          obtain ⟨a, b, A, n, c, m, rfl, rfl, hab, hbk, hmn, hmf, hmv, hrt, hnc, hna, hblk, hbel⟩ := hrel
          obtain ⟨wo, rfl⟩ : ∃ wo : World, wo = wr := ⟨_, rfl⟩
          have hlen : a.length + b.length ≤ 2500 := by rw [hab, List.length_append] at ht25; exact ht25
          have HAB := Lib.hid hab
          have HBK := Lib.hid hbk
          have HMN := Lib.hid hmn
          have HMF := Lib.hid hmf
          have HMV := Lib.hid hmv
          have HRT := Lib.hid hrt
          have HBE := Lib.hid hbel
          have HBLK := Lib.hid hblk
          have HBD : Hid (∀ c ∈ b, isD c = true) := fun c hc => HTD.out c (by rw [hab]; simp [hc])
          have hszo := hbel.size
          clear hab hbk hmn hmf hmv hrt hbel hblk
          by_cases hb0 : 0 < b.length
          · have t3 : decide (0 < b.length) = true := by simp; omega
            have t3' : decide ((0 : Int) < b.length) = true := by simp; omega
            obtain ⟨k, hk⟩ : ∃ k : Nat, k = min 18 b.length := ⟨_, rfl⟩
            have hk18 : k ≤ 18 := by omega
            have hkb : k ≤ b.length := by omega
            have hk1 : 1 ≤ k := by omega
            have hmin : min (18 : Int) (b.length : Int) = (k : Int) := by omega
            clear hk
            go_wp2_with fail
            go_loop [7, 8, 49] (fun s7 s8 s49 => ∃ i : Nat, i ≤ k ∧ s49 = .int .i64 i ∧ s7 = wv (dval (b.take i)) ∧ s8 = wv (10 ^ i)) (fun _ _ s49 => k - (intOf s49).toNat)
            case atStart => exact ⟨0, by omega, rfl, rfl, rfl⟩
            case round =>
              obtain ⟨i, hik, rfl, rfl, rfl⟩ := hrel
              by_cases hlt : i < k
              · have hb := dn_get b i (by omega)
                have hx : 48 ≤ dn b i ∧ dn b i ≤ 57 := by have := isD_dn b i (by omega); rw [HBD.out _ (List.getElem_mem _)] at this; simpa using this.symm
                have hts1 : b.take (i + 1) = b.take i ++ [b[i]'(by omega)] := List.take_succ_eq_append_getElem (by omega)
                have hdv : dval (b.take (i + 1)) = 10 * dval (b.take i) + (dn b i - 48) := by
                  rw [hts1, dval_snoc]; congr 2
                have hlt1 : dval (b.take i) < 10 ^ i := by
                  have := dval_lt (b.take i) (fun c hc => HBD.out c (List.mem_of_mem_take hc))
                  rwa [List.length_take, Nat.min_eq_left (by omega)] at this
                have hp18 : 10 ^ i ≤ 100000000000000000 := by
                  have : 10 ^ i ≤ 10 ^ 17 := Nat.pow_le_pow_right (by omega) (by omega)
                  exact this
                have HDV := Lib.hid hdv
                have HPS : Hid (10 ^ (i + 1) = 10 ^ i * 10) := Nat.pow_succ 10 i
                obtain ⟨h48', h57⟩ := hx
                have t4 : decide ((i : Int) < k) = true := by simp; omega
                have t4' : decide (i < k) = true := by simp; omega
                have q : (i : Int) < b.length := by omega
                clear hts1 hdv
                generalize dn b i = x at *
                generalize dval (b.take i) = y at *
                generalize 10 ^ i = z at *
                have r1 : IntKind.u64.wrap (10 * (y : Int)) = ((10 * y : Nat) : Int) := by rw [show 10 * (y : Int) = ((10 * y : Nat) : Int) by omega]; exact wrapN _ (by unfold W64; omega)
                have r2 : IntKind.u64.wrap (((10 * y : Nat) : Int) + ((x : Int) - 48)) = ((10 * y + (x - 48) : Nat) : Int) := by rw [show ((10 * y : Nat) : Int) + ((x : Int) - 48) = ((10 * y + (x - 48) : Nat) : Int) by omega]; exact wrapN _ (by unfold W64; omega)
                have r3 : IntKind.u64.wrap ((z : Int) * 10) = ((z * 10 : Nat) : Int) := by rw [show (z : Int) * 10 = ((z * 10 : Nat) : Int) by omega]; exact wrapN _ (by unfold W64; omega)
                have HY := Lib.hid (show 10 * y + (x - 48) = 10 * y + (x - 48) from rfl)
                rw [← HDV.out] at r2
                rw [← HPS.out] at r3
                generalize 10 * y = y10 at *
                go_wp2_with fail
                go_round
                case rel => exact ⟨i + 1, by omega, by go_num, rfl, rfl⟩
                case measure => simp [intOf]; omega
              · obtain rfl : i = k := by omega
                have hlt1 : dval (b.take i) < W64 := by
                  have := dval_lt (b.take i) (fun c hc => HBD.out c (List.mem_of_mem_take hc))
                  rw [List.length_take, Nat.min_eq_left (by omega)] at this
                  have h2 : 10 ^ i ≤ 10 ^ 18 := Nat.pow_le_pow_right (by omega) (by omega)
                  unfold W64
                  omega
                have hp : 10 ^ i < W64 := by
                  have h2 : 10 ^ i ≤ 10 ^ 18 := Nat.pow_le_pow_right (by omega) (by omega)
                  unfold W64
                  omega
                have t4 : decide ((i : Int) < i) = false := by simp
                have HTM := Lib.hid (times_any A c m (10 ^ i) (dval (b.take i)) wo HRT.out HMF.out hp hlt1 (by rw [HMN.out]; exact hnc) (by rw [HMN.out]; omega))
                have hda : dval (a ++ b.take i) = fval W64 m * 10 ^ i + dval (b.take i) := by rw [dval_append, HMV.out, List.length_take, Nat.min_eq_left (by omega)]
                rw [HMN.out, ← hda] at HTM
                have hex : (⟨b.toArray⟩ : ByteArray).extract i b.length = ⟨(b.drop i).toArray⟩ := by
                  apply ByteArray.ext
                  rw [ByteArray.data_extract]
                  simp
                  exact List.take_of_length_le (by simp)
                have HEX := Lib.hid hex
                clear hda hlt1 hp hlt hex
                generalize dval (b.take i) = y at *
                generalize 10 ^ i = z at *
                go_wp2_with fail
                refine HTM.out.mono ?_
                rintro e w3 ⟨A3, c3, m3, rfl, hm3, hf3, hv3, hr3, hc3, hb3⟩
                have HM3 := Lib.hid hm3
                have HF3 := Lib.hid hf3
                have HV3 := Lib.hid hv3
                have HR3 := Lib.hid hr3
                have HB3 := Lib.hid (keepb HBE.out hb3)
                have HBLK3 := Lib.hid (HBLK.out.below hb3 HBLK.out.lt)
                clear hm3 hf3 hv3 hr3 hb3
                have hex := HEX.out
                have q : (i : Int) ≤ b.length := by omega
                go_wp2_with fail
                go_roundg (b.length - i)
                case measure => rw [← HBK.out]; omega
                case rel => exact ⟨a ++ b.take i, b.drop i, A3, n + 1, c3, m3, rfl, rfl, by rw [List.append_assoc, List.take_append_drop]; exact HAB.out, by simp, HM3.out, HF3.out, HV3.out, HR3.out, hc3, by simp; omega, HBLK3.out, HB3.out⟩
          · obtain rfl : b = [] := List.eq_nil_of_length_eq_zero (by omega)
            have hfv : fval W64 m = dval s := by rw [HMV.out, ← HTV.out, HAB.out, List.append_nil]
            have hbl : blen (dval s) ≤ 1000000 := by
              have := blen_words (fval_lt HMF.out)
              rw [hfv, HMN.out] at this
              simp at hlen
              omega
            have HMD := Lib.hid (made_nat A n c (dval s) m wo HMN.out HMF.out hfv HRT.out hnc (by simp at hlen; omega))
            have HBL := Lib.hid hbl
            clear hfv hbl
            go_wp2_with fail
            refine HMD.out.mono ?_
            rintro e w2 ⟨v2, rfl, hv2, hb2⟩
            have HB2 := Lib.hid (keepb HBE.out hb2)
            have HBK2 := Lib.hid (HBLK.out.below hb2 HBLK.out.lt)
            have HN := Lib.hid (bounded_any v2 (dval s) w2 hv2 HBL.out)
            obtain ⟨A2, n2, c2, rfl, _⟩ := hv2
            clear hb2
            go_wp2_with fail
            refine HN.out.mono ?_
            rintro e w3 h3
            obtain ⟨A3, n3, c3, er, rfl, hq, hb3⟩ := h3.open
            have HB3 := Lib.hid (keepb HB2.out hb3)
            have HBK3 := Lib.hid (HBK2.out.below hb3 HBK2.out.lt)
            have HQ := Lib.hid hq
            have hc3 := HBK3.out.cell 0
            have hf3 := HBK3.out.frozen 0
            simp at hc3
            have hp := HBK3.out.put (i := 0) (by simp)
            clear h3 hq hb3
            go_wp2_with fail
            exact bodyPost_ret (v := .tuple #[.agg #[.slice A3 n3 c3], er]) (by simp [results, Tryd.results11, go_sem, hp]) rfl ((HQ.out.set HBK3.out (by decide) _).mk (HB3.out.setCell (by simp) _))
end Go.Proofs.YtgihkmofpncobaaDoor
