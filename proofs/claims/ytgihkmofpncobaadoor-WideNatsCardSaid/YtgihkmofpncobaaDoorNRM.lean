/- The document's natural numbers: what digits say, however many. -/
import Derived.Test.YtgihkmofpncobaaDoorNRL
namespace Go.Proofs.YtgihkmofpncobaaDoor
open Go.RowKit
set_option linter.unusedSimpArgs false
set_option linter.unusedVariables false

/-- What Parse answers of digits. -/
def RParG (x M : Nat) (w : World) (e : Ending) (w' : World) : Prop := ∃ A n c, e = .returned (.tuple #[.agg #[.slice A n c], .bool (!overB x M)]) ∧ (overB x M = false → RatL w' A n c x) ∧ Below w.heap.size w w'
theorem ten_hi (a b : Nat) (ha : a = 2467) (hb : b = 8192) : Nat.ble (2 ^ b) (10 ^ a) = true := by subst ha hb; decide +kernel
theorem over_ten {x n M : Nat} (hM : M = 8192) (hx : 10 ^ n ≤ x) (hn : 2467 ≤ n) : overB x M = true := by
  obtain ⟨a, ha⟩ : ∃ a, a = 2467 := ⟨_, rfl⟩
  have h1 : 2 ^ M ≤ 10 ^ a := Nat.le_of_ble_eq_true (ten_hi a M ha hM)
  have h2 : 10 ^ a ≤ 10 ^ n := Nat.pow_le_pow_right (by decide) (by omega)
  exact decide_eq_true (Nat.le_trans h1 (Nat.le_trans h2 hx))
theorem dval_b4 {s : List UInt8} (hd : ∀ c ∈ s, isD c = true) {Y : Nat} (h : s.length ≤ Y) : dval s < B4 ^ Y := by
  have h1 := dval_lt s hd
  exact Nat.lt_of_lt_of_le h1 (Nat.le_trans (Nat.pow_le_pow_right (by decide) h) (Nat.pow_le_pow_left (by decide) Y))

set_option maxRecDepth 4000000 in
set_option maxHeartbeats 4000000 in
theorem rparse_core (s : List UInt8) (M Y : Nat) (w : World) (hs : s.length ≤ 1000000000000000) (hd : ∀ c ∈ s, isD c = true) (hM : M = 8192) (hY : Y = 10000) :
    Calls Tryd.prog 20 #[.string ⟨s.toArray⟩] w (RParG (dval s) M w) := by
  have HD := Lib.hid hd
  have HS := Lib.hid hs
  have HM := Lib.hid hM
  have HY := Lib.hid hY
  clear hM hY
  have HK0 := Lib.hid (Blk.new w 31 #[.slice none 0 0])
  have HB0 := Lib.hid ((Below.refl _ w).alloc (Nat.le_refl _) (.cells #[.slice none 0 0] 31))
  obtain ⟨w0, hw0⟩ : ∃ w0, w.alloc (.cells #[.slice none 0 0] 31) = w0 := ⟨_, rfl⟩
  rw [hw0] at HK0 HB0
  have hsz : w0.heap.size = w.heap.size + 1 := by rw [← hw0]; simp
  have HSZ := Lib.hid hsz
  clear hd hs hsz
  go_enter Tryd.func20, Tryd.ntmps20
  go_wp2_with fail
  clear hw0
  go_loopg [0] s.length (fun k s0 wr => ∃ b : List UInt8, s0 = .string ⟨b.toArray⟩ ∧ b.length = k ∧ k ≤ 1000000000000000 ∧ (∀ c ∈ b, isD c = true) ∧ dval b = dval s ∧ w0 = wr)
  case atStart => exact ⟨s, rfl, rfl, HS.out, HD.out, rfl, rfl⟩
  case round =>
    obtain ⟨b, rfl, rfl, hb8, hbd, hbv, hww⟩ := hrel
    subst hww
    have HBD := Lib.hid hbd
    have HBV := Lib.hid hbv
    clear hbd hbv
    by_cases hgo : 0 < b.length ∧ dn b 0 = 48
    · obtain ⟨h0, h48⟩ := hgo
      have t0 : decide ((0 : Int) < b.length) = true := decide_eq_true (by omega)
      have t0' : decide (0 < b.length) = true := decide_eq_true h0
      have hg := dn_get b 0 h0
      have HV1 : Hid (dval b.tail = dval s) := Lib.hid (by rw [← List.drop_one, dval_drop1 b h48]; exact HBV.out)
      rw [h48] at hg
      clear h48
      have hex := rext_drop b 1
      have q : (1 : Int) ≤ b.length := by omega
      go_wp2_with fail
      go_roundg (b.length - 1)
      case measure => omega
      case rel => exact ⟨b.tail, rfl, by simp, by omega, fun c hc => HBD.out c (List.mem_of_mem_tail hc), HV1.out, rfl⟩
    · have hor : (decide ((0 : Int) < b.length) = false ∧ decide (0 < b.length) = false) ∨ (∃ (h : 0 < b.length) (x : Nat), decide ((0 : Int) < b.length) = true ∧ decide (0 < b.length) = true ∧ ((⟨b.toArray⟩ : ByteArray)[0]'h).toNat = x ∧ ((x : Int) == 48) = false) := by
        by_cases h0 : 0 < b.length
        · exact .inr ⟨h0, dn b 0, decide_eq_true (by omega), decide_eq_true h0, dn_get b 0 h0, by rw [beq_eq_false_iff_ne]; omega⟩
        · exact .inl ⟨decide_eq_false (by omega), decide_eq_false h0⟩
      have HOR := Lib.hid hor
      have HGO := Lib.hid hgo
      clear hor hgo
      go_upto_region 1 with fail
      go_cut [16] from 9 to 17 (fun s16 wx => s16 = .bool false ∧ w0 = wx)
      case first =>
        rcases HOR.out with ⟨u1, u2⟩ | ⟨h, x, u1, u2, u3, u4⟩
        all_goals
          go_wp2_with fail
          go_meet
          exact ⟨rfl, rfl⟩
      case rest =>
      obtain ⟨rfl, rfl⟩ := hcut
      clear HOR
      by_cases hlen : 2467 < b.length
      · have hov : overB (dval s) M = true := by
          rw [← HBV.out]
          have hne : b ≠ [] := by rintro rfl; simp at hlen
          exact over_ten HM.out (dval_ge b HBD.out hne (fun h => HGO.out ⟨by omega, by unfold dn; rw [h]; rfl⟩)) (by omega)
        have HO := Lib.hid hov
        have u5 : decide ((2467 : Int) < b.length) = true := decide_eq_true (by omega)
        have u5' : decide (2467 < b.length) = true := decide_eq_true hlen
        have hp := HK0.out.put (i := 0) (by simp) (.slice none 0 0)
        have cf := HK0.out.frozen 0
        have cc := HK0.out.cell 0
        simp at cf cc
        clear hov hlen
        go_wp2_with fail
        exact bodyPost_ret (v := .tuple #[.agg #[.slice none 0 0], .bool false]) (by simp [results, Tryd.results20, go_sem, hp]) rfl ⟨none, 0, 0, by rw [HO.out]; rfl, fun (h : overB (dval s) M = false) => absurd (h.symm.trans HO.out) (by decide), HB0.out.setCell (Nat.le_refl _) _⟩
      have u5 : decide ((2467 : Int) < b.length) = false := decide_eq_false (by omega)
      have u5' : decide (2467 < b.length) = false := decide_eq_false hlen
      have hb24 : b.length ≤ 2467 := Nat.not_lt.1 hlen
      have HSY : Hid (dval s < B4 ^ Y) := Lib.hid (by rw [← HBV.out]; exact dval_b4 HBD.out (by have := HY.out; omega))
      clear hlen
      go_wp2_with fail
      go_loopg [0, 4] b.length (fun k s0 s4 wr => ∃ (a : List UInt8) (m : List Nat), s0 = .string ⟨a.toArray⟩ ∧ a.length = k ∧ k ≤ 2467 ∧ (a.length = 0 ∨ 4 * m.length + a.length ≤ 2467) ∧ 4 * m.length ≤ 2470 ∧ (∀ c ∈ a, isD c = true) ∧ fval B4 m + B4 ^ m.length * dval a = dval s ∧ Figs B4 m ∧ OwnR wr (w.heap.size + 1) 3 okI s4 m.length (m.map fv) ∧ Blk wr w.heap.size 31 #[.slice none 0 0] ∧ Below w.heap.size w wr)
      case atStart => exact ⟨b, [], rfl, rfl, hb24, .inr (by simpa using hb24), by simp, HBD.out, by simpa [fval] using HBV.out, Figs.nil _, OwnR.nil _ _ _ _, HK0.out, HB0.out⟩
      case round =>
        obtain ⟨a, m, rfl, rfl, ha8, hm8, hm4, had, hav, hmf, hu, hk, hbe⟩ := hrel
        obtain ⟨wo, rfl⟩ : ∃ wo : World, wo = wr := ⟨_, rfl⟩
        have HAD := Lib.hid had
        have HAV := Lib.hid hav
        have HM8 := Lib.hid hm8
        have HMF := Lib.hid hmf
        have HU := Lib.hid hu
        have HK := Lib.hid hk
        have HBE := Lib.hid hbe
        obtain ⟨A1, c1, hu', hc1⟩ := hu.shape
        subst hu'
        have HLE : Hid (w.heap.size + 1 ≤ wo.heap.size) := Lib.hid hk.lt
        clear had hav hm8 hmf hu hk hbe
        by_cases h0 : 0 < a.length
        · have t0 : decide ((0 : Int) < a.length) = true := decide_eq_true (by omega)
          have t0' : decide (0 < a.length) = true := decide_eq_true h0
          have hm1 : 4 * m.length + a.length ≤ 2467 := by rcases HM8.out with h | h <;> omega
          obtain ⟨fr, hfr⟩ : ∃ fr, (4 < a.length ∧ fr = a.length - 4) ∨ (a.length ≤ 4 ∧ fr = 0) := by
            rcases Nat.lt_or_ge 4 a.length with h | h
            · exact ⟨_, .inl ⟨h, rfl⟩⟩
            · exact ⟨_, .inr ⟨h, rfl⟩⟩
          have HFR := Lib.hid hfr
          have HDC := Lib.hid (dval_cut4 a fr hfr)
          obtain ⟨tb, htb⟩ : ∃ tb, decide ((4 : Int) < a.length) = tb := ⟨_, rfl⟩
          obtain ⟨tb', htb'⟩ : ∃ tb, decide (4 < a.length) = tb := ⟨_, rfl⟩
          have htt : tb' = tb := by rw [← htb, ← htb']; exact decide_eq_decide.2 (by omega)
          subst htt
          have HTB := Lib.hid htb'
          have hfl : fr < a.length := by omega
          have hf4 : a.length ≤ fr + 4 := by omega
          clear hfr
          go_upto_if 28 with fail
          go_cut [5] from 29 to 32 (fun s5 wx => s5 = .int .i64 fr ∧ wo = wx)
          case first =>
            rcases HFR.out with ⟨h1, h2⟩ | ⟨h1, h2⟩
            · obtain rfl : tb' = true := by rw [← HTB.out]; exact decide_eq_true h1
              have e : (a.length : Int) - 4 = (fr : Int) := by omega
              clear h1 h2
              go_wp2_with fail
              go_meet
              exact ⟨rfl, rfl⟩
            · obtain rfl : tb' = false := by rw [← HTB.out]; exact decide_eq_false (by omega)
              subst h2
              clear h1
              go_wp2_with fail
              go_meet
              exact ⟨rfl, rfl⟩
          case rest =>
          obtain ⟨rfl, rfl⟩ := hcut
          clear htb htb' HTB
          go_wp2_with fail
          go_loop [6, 7] (fun s6 s7 => ∃ j : Nat, fr ≤ j ∧ j ≤ a.length ∧ s7 = .int .i64 j ∧ s6 = fv (dval ((a.drop fr).take (j - fr)))) (fun _ s7 => a.length - (intOf s7).toNat)
          case atStart => exact ⟨fr, Nat.le_refl _, by omega, rfl, by rw [Nat.sub_self]; rfl⟩
          case round =>
            obtain ⟨j, hfj, hja, rfl, rfl⟩ := hrel
            by_cases hlt : j < a.length
            · have hb := dn_get a j hlt
              obtain ⟨h48, h57⟩ := dn_digit HAD.out hlt
              have HNX := Lib.hid (dval_next a fr j hfj hlt)
              have hy : dval ((a.drop fr).take (j - fr)) < 1000 := by
                have h1 := dval_lt ((a.drop fr).take (j - fr)) (fun c hc => HAD.out c (List.mem_of_mem_drop (List.mem_of_mem_take hc)))
                rw [List.length_take, List.length_drop, Nat.min_eq_left (by omega)] at h1
                have h2 : 10 ^ (j - fr) ≤ 10 ^ 3 := Nat.pow_le_pow_right (by omega) (by omega)
                omega
              have t4 : decide ((j : Int) < a.length) = true := decide_eq_true (by omega)
              have t4' : decide (j < a.length) = true := decide_eq_true hlt
              have q : (j : Int) < a.length := by omega
              have hyI : (dval ((a.drop fr).take (j - fr)) : Int) < 1000 := by omega
              generalize dn a j = x at *
              generalize dval ((a.drop fr).take (j - fr)) = y at *
              go_wp2_with fail
              go_round
              case rel => exact ⟨j + 1, by omega, by omega, by go_num, by rw [HNX.out]; show Value.int _ _ = Value.int _ _; congr 1; omega⟩
              case measure => simp [intOf]; omega
            · obtain rfl : j = a.length := by omega
              have t4 : decide ((a.length : Int) < a.length) = false := by simp
              have t4' : decide (a.length < a.length) = false := by simp
              have htk : (a.drop fr).take (a.length - fr) = a.drop fr := List.take_of_length_le (by simp)
              rw [htk]
              have hX : dval (a.drop fr) < B4 := by
                have h1 := dval_lt (a.drop fr) (fun c hc => HAD.out c (List.mem_of_mem_drop hc))
                rw [List.length_drop] at h1
                have h2 : 10 ^ (a.length - fr) ≤ 10 ^ 4 := Nat.pow_le_pow_right (by omega) (by omega)
                unfold B4
                omega
              have HX := Lib.hid hX
              have HNV : Hid (fval B4 (m ++ [dval (a.drop fr)]) + B4 ^ (m.length + 1) * dval (a.take fr) = dval s) := Lib.hid (by
                rw [← HAV.out, HDC.out, fval_snoc, Nat.pow_succ, Nat.mul_add]
                have : B4 ^ m.length * B4 * dval (a.take fr) = B4 ^ m.length * (dval (a.take fr) * B4) := by ac_rfl
                omega)
              have hex := rext_take a fr
              have q : (fr : Int) ≤ a.length := by omega
              clear hlt htk hX
              generalize dval (a.drop fr) = d at *
              go_wp2_with (at_builtin; refine wpList_app ei_int okI0 rfl (.tmp 47) (.tmp 49) rfl (w.heap.size + 1) _ _ _ rfl (HU.out.below (below_new _ _)) _ _ _ _ _ rfl (RV.fresh wo 3 [fv d]) (fun u hu => by simp at hu; subst hu; rfl) (show m.length + 1 ≤ _ by omega) (show (m.length + 1) * 8 ≤ _ by omega) (by have := HLE.out; simp; omega) ?_; intro A3 c3 w3 hu3 hg3 ha3)
              go_roundg fr
              case measure => omega
              case rel => exact ⟨a.take fr, m ++ [d], by simp, by simp; omega, by omega, by simp; rcases HFR.out with h | h <;> omega, by simp; omega, fun c hc => HAD.out c (List.mem_of_mem_take hc), by simpa using HNV.out, HMF.out.snoc HX.out, by simpa using hu3, (HK.out.alloc _).grown hg3 (fun h => HU.out.apart HK.out (by decide) h.symm), (HBE.out.alloc (by have := HLE.out; omega) _).grown hg3 (by have := HLE.out; simp; omega) (fun k hk => by have := (HU.out.lt k hk).1; omega)⟩
        · obtain rfl : a = [] := List.eq_nil_of_length_eq_zero (by omega)
          have HVV : Hid (fval B4 m = dval s) := Lib.hid (by have := HAV.out; rwa [dval_nil, Nat.mul_zero, Nat.add_zero] at this)
          have HRT : Hid (RT wo 3 A1 (m.map fv)) := Lib.hid (RT.of_own HU.out)
          have HTR := Lib.hid (rtrim_any A1 c1 m wo HRT.out HMF.out hc1 (by omega))
          clear h0
          go_wp2_with fail
          refine HTR.out.mono ?_
          rintro e w4 ⟨k4, rfl, hk4, hf4, hb4⟩
          have HBW4 := Lib.hid (keepb HBE.out hb4)
          have HK4 : Hid (Blk w4 w.heap.size 31 #[.slice none 0 0]) := Lib.hid (HK.out.below hb4 HK.out.lt)
          have HL4 := Lib.hid (show RatL w4 A1 k4 c1 (dval s) from ⟨m.take k4, by rw [← HVV.out]; exact hf4, by rw [List.length_take]; omega, by have := (HRT.out.below hb4).take k4; rwa [← List.map_take] at this, by omega⟩)
          have HOV := Lib.hid (fun W h => rover_nat (.agg #[.slice A1 k4 c1]) (dval s) Y M 1000000 W h HSY.out (by have := HY.out; omega) HM.out rfl)
          obtain ⟨W5, hW5⟩ : ∃ W, w4.alloc (.cells #[.slice A1 k4 c1] 31) = W := ⟨_, rfl⟩
          obtain ⟨g5, hg5⟩ : ∃ g, w4.heap.size = g := ⟨_, rfl⟩
          have HN5 : Hid (Blk W5 g5 31 #[.slice A1 k4 c1]) := Lib.hid (by rw [← hW5, ← hg5]; exact Blk.new w4 _ _)
          have hb5 : Below w4.heap.size w4 W5 := by rw [← hW5]; exact below_new _ _
          have HL5 := Lib.hid (HL4.out.below hb5)
          have HK5 := Lib.hid (HK4.out.below hb5 HK4.out.lt)
          have HB5 := Lib.hid (keepb HBW4.out hb5)
          clear hk4 hf4 hb4 hb5
          go_upto_region 18 with fail
          have hcn := HN5.out.cell 0
          have hck := HK5.out.cell 0
          have hfk := HK5.out.frozen 0
          simp at hcn hck
          go_region_with (first
            | (go_at_call 24; refine (HOV.out _ (HL5.out.below (below_drewN (Below.refl _ _) 1)).w).mono ?_; rintro e w6 ⟨rfl, hb6⟩; have HB6 := Lib.hid (keepb (below_drewN (Below.refl _ _) 1) hb6); have hcn6 := keepc HB6.out HN5.out.lt hcn; have hck6 := keepc HB6.out HK5.out.lt hck; have hfk6 := keepf HB6.out HK5.out.lt hfk; clear hb6))
          all_goals
            have HK6 := Lib.hid (HK5.out.below HB6.out HK5.out.lt)
            go_wp2_with fail
            have hp := HK6.out.put (i := 0) (by simp) (.slice A1 k4 c1)
            exact bodyPost_ret (v := .tuple #[.agg #[.slice A1 k4 c1], .bool (!overB (dval s) M)]) (by simp [results, Tryd.results20, go_sem, hp]) rfl ⟨A1, k4, c1, rfl, fun _ => (HL5.out.below HB6.out).set HK6.out (by decide) _, (keepb HB5.out HB6.out).setCell (p := ⟨w.heap.size, 0, none⟩) (Nat.le_refl _) _⟩
theorem rparse_nat (s : List UInt8) (M : Nat) (w : World) (hs : s.length ≤ 1000000000000000) (hd : ∀ c ∈ s, isD c = true) (hM : M = 8192) :
    Calls Tryd.prog 20 #[.string ⟨s.toArray⟩] w (RParG (dval s) M w) := rparse_core s M 10000 w hs hd hM rfl
end Go.Proofs.YtgihkmofpncobaaDoor
