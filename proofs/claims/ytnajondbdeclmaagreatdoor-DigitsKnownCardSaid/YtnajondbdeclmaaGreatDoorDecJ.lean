/- The walk of dec.floor. The walk of dec.floor: what lies between. The walks of dec.rounded. -/
import Derived.Test.YtnajondbdeclmaaGreatDoorStay
import Derived.Test.YtnajondbdeclmaaGreatDoorDecG
import Derived.Test.YtnajondbdeclmaaGreatDoorDecD
import Derived.Deep.CutBlock
namespace Go.Proofs.YtnajondbdeclmaaGreatDoor
open Go.RowKit
set_option linter.unusedSimpArgs false
set_option linter.unusedVariables false
attribute [local go_sem] SGives_value SGives_skip SGives_enter CGives_value CGives_skip CGives_enter MGives_value MGives_skip MGives_enter

theorem sv_ne {l : List UInt8} (h : l ≠ []) : l.isEmpty = false ∧ ((⟨l.toArray⟩ : ByteArray) == ⟨#[]⟩) = false := by
  refine ⟨?_, by rw [sv_empty]; simpa using h⟩
  cases l with
  | nil => exact absurd rfl h
  | cons a l => rfl
theorem ten_any (n : Nat) (w : World) (hn : n ≤ 2000) : Calls Tryz.prog 115 #[.int .i64 (n : Int)] w fun e w' => ∃ A m c, e = .returned (.agg #[.slice A m c]) ∧ NatL w' A m c (10 ^ n) ∧ Below w.heap.size w w' :=
  (ten_nat n w hn).mono fun e w' h => by obtain ⟨v, rfl, ⟨A, n, c, rfl, hl⟩, hb⟩ := h; exact ⟨A, n, c, rfl, hl, hb⟩
theorem mul_any (A B : Option Addr) (n c m d x y : Nat) (w : World) (h : NatL w A n c x) (k : NatL w B m d y) (hx : blen x ≤ 4000) (hy : blen y ≤ 4000) :
    Calls Tryz.prog 53 #[.agg #[.slice A n c], .agg #[.slice B m d]] w fun e w' => ∃ A n c, e = .returned (.tuple #[.agg #[.slice A n c], .nilIface]) ∧ NatL w' A n c (x * y) ∧ Below w.heap.size w w' :=
  (mul_nat (.agg #[.slice A n c]) (.agg #[.slice B m d]) x y w ⟨A, n, c, rfl, h⟩ ⟨B, m, d, rfl, k⟩ (by omega) (by omega)).mono fun e w' h => by
    obtain ⟨A, n, c, rfl, hl, hb⟩ := h.small (by have := blen_times hx hy; omega)
    exact ⟨A, n, c, rfl, hl, hb⟩

theorem p310 (k n : Nat) (hk : k = 310) (hn : n = 1030) : 10 ^ k ≤ 2 ^ n := by subst hk hn; decide +kernel
theorem p801 (k : Nat) (hk : k = 801) : blen (10 ^ k) ≤ 4000 := by subst hk; decide +kernel
theorem p1131 (k : Nat) (hk : k = 1131) : blen (10 ^ k) ≤ 4000 := by subst hk; decide +kernel
/-- What is known of the numbers that floor holds against one another. -/
theorem mid_bounds {d : Dm} (h : Lead d.2.1) (hl : d.2.1.length ≤ 801) (h1 : topD d ≤ 310) (h2 : -330 ≤ topD d) :
    blen (numD d) ≤ 4000 ∧ blen (denD d) ≤ 4000 ∧ blen (numD d) ≤ blen (denD d) + 1030 ∧ blen (dval d.2.1) ≤ 4000 ∧ blen (10 ^ d.2.2.toNat) ≤ 4000 ∧ d.2.2.toNat ≤ 2000 ∧ (-d.2.2).toNat ≤ 2000 := by
  have hlen := h.len
  have hlt := h.lt
  obtain ⟨a, ha⟩ : ∃ a, a = 1131 := ⟨_, rfl⟩
  obtain ⟨b, hb⟩ : ∃ b, b = 801 := ⟨_, rfl⟩
  obtain ⟨c, hc⟩ : ∃ c, c = 310 := ⟨_, rfl⟩
  obtain ⟨e, he⟩ : ∃ e, e = 1030 := ⟨_, rfl⟩
  have g1 := p1131 a ha
  have g2 := p801 b hb
  have g3 := p310 c e hc he
  have hml := mag_lt h c (by omega)
  rw [← he]
  unfold topD at h1 h2
  have hd : denD d ≤ 10 ^ a := pow10_mono (by omega)
  have hn : numD d < 10 ^ b := by
    unfold numD
    refine Nat.lt_of_lt_of_le (Nat.mul_lt_mul_of_pos_right hlt (pow10 _)) ?_
    rw [← Nat.pow_add]
    exact pow10_mono (by omega)
  have hv : dval d.2.1 < 10 ^ b := Nat.lt_of_lt_of_le hlt (pow10_mono (by omega))
  have hx : 10 ^ d.2.2.toNat ≤ 10 ^ b := pow10_mono (by omega)
  refine ⟨Nat.le_trans (blen_mono (Nat.le_of_lt hn)) g2, Nat.le_trans (blen_mono hd) g1, ?_, Nat.le_trans (blen_mono (Nat.le_of_lt hv)) g2, Nat.le_trans (blen_mono hx) g2, by omega, by omega⟩
  rw [blen_le, Nat.add_comm, Nat.pow_add]
  exact Nat.lt_of_lt_of_le hml (Nat.mul_le_mul g3 (Nat.le_of_lt (blen_lt _)))

set_option maxRecDepth 100000 in
set_option maxHeartbeats 1000000 in
theorem floor_nil (g : Bool) (x : Int) (w : World) (hx : -1000000000000000 ≤ x ∧ x ≤ 1000000000000000) :
    Calls Tryz.prog 81 #[.agg #[.bool g, .string ⟨#[]⟩, .int .i64 x]] w fun e w' => e = .returned (cutV (0, 0, true)) ∧ Below w.heap.size w w' := by
  obtain ⟨h1, h2⟩ := hx
  have e0 : (⟨#[]⟩ : ByteArray).size = 0 := rfl
  go_enter Tryz.func81, Tryz.ntmps81
  go_upto_region 3 with fail
  repeat go_step
  exact bodyPost_ret (v := .agg #[.int .u64 0, .int .i64 0, .bool true]) (by simp [results, Tryz.results81, go_sem]) rfl ⟨rfl, by go_grown⟩

set_option maxRecDepth 100000 in
set_option maxHeartbeats 1000000 in
theorem floor_great (g : Bool) (l : List UInt8) (x : Int) (w : World) (hl : l ≠ []) (hn : l.length ≤ 140737488353000) (hx : -1000000000000000 ≤ x ∧ x ≤ 1000000000000000) (ht : 310 < (l.length : Int) + x) :
    Calls Tryz.prog 81 #[.agg #[.bool g, .string ⟨l.toArray⟩, .int .i64 x]] w fun e w' => e = .returned (cutV (most, 1, false)) ∧ Below w.heap.size w w' := by
  obtain ⟨h1, h2⟩ := hx
  obtain ⟨ke, ke2⟩ := sv_ne hl
  obtain ⟨t, htt⟩ : ∃ t : Int, (l.length : Int) + x = t := ⟨_, rfl⟩
  have k1 : IntKind.i64.wrap ((l.length : Int) + x) = t := by rw [IntWalk.i64_in _ (by omega)]; exact htt
  rw [htt] at ht
  have t1 : decide ((310 : Int) < t) = true := decide_eq_true ht
  clear hl hn h1 h2 ht htt
  go_enter Tryz.func81, Tryz.ntmps81
  go_upto_region 5 with fail
  repeat go_step
  exact bodyPost_ret (v := .agg #[.int .u64 9218868437227405311, .int .i64 1, .bool false]) (by simp [results, Tryz.results81, go_sem]) rfl ⟨rfl, by go_grown⟩

set_option maxRecDepth 100000 in
set_option maxHeartbeats 1000000 in
theorem floor_tiny (g : Bool) (l : List UInt8) (x : Int) (w : World) (hl : l ≠ []) (hn : l.length ≤ 140737488353000) (hx : -1000000000000000 ≤ x ∧ x ≤ 1000000000000000) (ht : (l.length : Int) + x < -330) :
    Calls Tryz.prog 81 #[.agg #[.bool g, .string ⟨l.toArray⟩, .int .i64 x]] w fun e w' => e = .returned (cutV (0, -1, false)) ∧ Below w.heap.size w w' := by
  obtain ⟨h1, h2⟩ := hx
  obtain ⟨ke, ke2⟩ := sv_ne hl
  obtain ⟨t, htt⟩ : ∃ t : Int, (l.length : Int) + x = t := ⟨_, rfl⟩
  have k1 : IntKind.i64.wrap ((l.length : Int) + x) = t := by rw [IntWalk.i64_in _ (by omega)]; exact htt
  rw [htt] at ht
  have t0 : decide ((310 : Int) < t) = false := decide_eq_false (by omega)
  have t1 : decide (t < -330) = true := decide_eq_true ht
  clear hl hn h1 h2 ht htt
  go_enter Tryz.func81, Tryz.ntmps81
  go_upto_region 7 with fail
  repeat go_step
  exact bodyPost_ret (v := .agg #[.int .u64 0, .int .i64 (-1), .bool false]) (by simp [results, Tryz.results81, go_sem]) rfl ⟨rfl, by go_grown⟩
end Go.Proofs.YtnajondbdeclmaaGreatDoor

namespace Go.Proofs.YtnajondbdeclmaaGreatDoor
open Go.RowKit
set_option linter.unusedSimpArgs false
set_option linter.unusedVariables false
attribute [local go_sem] SGives_value SGives_skip SGives_enter CGives_value CGives_skip CGives_enter MGives_value MGives_skip MGives_enter

set_option maxRecDepth 100000 in
set_option maxHeartbeats 4000000 in
theorem floor_mid (g : Bool) (l : List UInt8) (x : Int) (w : World) (hl : Lead l) (hn : l.length ≤ 140737488353000) (hx : -1000000000000000 ≤ x ∧ x ≤ 1000000000000000) (ht1 : (l.length : Int) + x ≤ 310) (ht2 : -330 ≤ (l.length : Int) + x) :
    Calls Tryz.prog 81 #[.agg #[.bool g, .string ⟨l.toArray⟩, .int .i64 x]] w fun e w' => e = .returned (cutV (cutP (numD (shortD (g, l, x))) (denD (shortD (g, l, x))))) ∧ Below w.heap.size w w' := by
  obtain ⟨h1, h2⟩ := hx
  obtain ⟨ke, ke2⟩ := sv_ne hl.2.1
  have hs := shortD_lead (d := (g, l, x)) hl
  have hst := shortD_top (g, l, x)
  have hsl := shortD_len (g, l, x)
  have hsg := shortD_neg (g, l, x)
  have htop : topD (g, l, x) = (l.length : Int) + x := rfl
  have hmid := mid_bounds hs hsl (by omega) (by omega)
  obtain ⟨t, htt⟩ : ∃ t : Int, (l.length : Int) + x = t := ⟨_, rfl⟩
  have k1 : IntKind.i64.wrap ((l.length : Int) + x) = t := by rw [IntWalk.i64_in _ (by omega)]; exact htt
  have t0 : decide ((310 : Int) < t) = false := decide_eq_false (by omega)
  have t1 : decide (t < -330) = false := decide_eq_false (by omega)
  have hshort : (800 < l.length ∧ (shortD (g, l, x)).2.1 = l.take 800 ++ [49] ∧ (shortD (g, l, x)).2.2 = x + l.length - 801) ∨ (l.length ≤ 800 ∧ (shortD (g, l, x)).2.1 = l ∧ (shortD (g, l, x)).2.2 = x) := by
    rcases Nat.lt_or_ge 800 l.length with h | h
    · left; unfold shortD; rw [if_pos h]; exact ⟨h, rfl, rfl⟩
    · right; unfold shortD; rw [if_neg (show ¬ 800 < l.length by omega)]; exact ⟨h, rfl, rfl⟩
  generalize shortD (g, l, x) = D at *
  obtain ⟨g', ls, xs⟩ := D
  simp only at hs hsl hshort hmid hsg
  obtain ⟨b1, b2, b3, b4, b5, b6, b7⟩ := hmid
  have HP := Lib.hid (fun W => parse_ok ls W (by omega) hs.2.1 hs.1)
  have HBP := Lib.hid (show blen (dval ls) ≤ 8192 by omega)
  have HO := Lib.hid (fun W => of_nat 1 W (by decide))
  have e1 : wv 1 = .int .u64 1 := rfl
  rw [e1] at HO
  have HRA := Lib.hid (fun v u W hv hu => ratio_any v u (numD (g', ls, xs)) (denD (g', ls, xs)) W hv hu (mag_pos (d := (g', ls, xs)) hs) (denD_pos _) b1 b2 b3)
  have HTN := Lib.hid (fun W => ten_any xs.toNat W b6)
  have HTD := Lib.hid (fun W => ten_any (-xs).toNat W b7)
  have HND := Lib.hid (show numD (g', ls, xs) = dval ls * 10 ^ xs.toNat from rfl)
  have HDD := Lib.hid (show denD (g', ls, xs) = 10 ^ (-xs).toNat from rfl)
  have HB4 := Lib.hid b4
  have HB5 := Lib.hid b5
  have HSH := Lib.hid hshort
  have hxs : -2000 ≤ xs ∧ xs ≤ 2000 := by omega
  generalize cutP (numD (g', ls, xs)) (denD (g', ls, xs)) = cv at *
  obtain ⟨cv0, cv1, cv2⟩ := cv
  unfold cutV at *
  simp only at HRA ⊢
  have HXS := Lib.hid hxs
  have hb0 : Below w.heap.size w ((w.alloc (.cells #[.bool g, .string ⟨l.toArray⟩, .int .i64 x] 102)).alloc (.cells #[.int .u64 0, .int .i64 0, .bool false] 107)) := by go_grown
  have BB0 := Lib.hid hb0
  have B00 := Lib.hid ((Blk.new w 102 #[.bool g, .string ⟨l.toArray⟩, .int .i64 x]).alloc (.cells #[.int .u64 0, .int .i64 0, .bool false] 107))
  have B10 := Lib.hid (show Blk ((w.alloc (.cells #[.bool g, .string ⟨l.toArray⟩, .int .i64 x] 102)).alloc (.cells #[.int .u64 0, .int .i64 0, .bool false] 107)) (w.heap.size + 1) 107 #[.int .u64 0, .int .i64 0, .bool false] by
    have := Blk.new (w.alloc (.cells #[.bool g, .string ⟨l.toArray⟩, .int .i64 x] 102)) 107 #[.int .u64 0, .int .i64 0, .bool false]
    rwa [World.size_alloc] at this)
  have hnI : ((l.length : Nat) : Int) ≤ 140737488353000 := by omega
  have HL := Lib.hid hl
  have HSG := Lib.hid hsg
  clear hl hn ht1 ht2 htt hs hst hsl hsg htop b1 b2 b3 b4 b5 b6 b7 e1 hshort hxs hb0
  obtain ⟨tl, htl⟩ : ∃ tl, decide ((800 : Int) < (l.length : Int)) = tl := ⟨_, rfl⟩
  have htl' : decide (800 < l.length) = tl := by rw [← htl]; rw [Bool.eq_iff_iff, decide_eq_true_eq, decide_eq_true_eq]; omega
  have HTL := Lib.hid htl'
  generalize hW0 : ((w.alloc (.cells #[.bool g, .string ⟨l.toArray⟩, .int .i64 x] 102)).alloc (.cells #[.int .u64 0, .int .i64 0, .bool false] 107)) = W0 at *
  obtain ⟨c0, c1, c2, f0, f1, f2⟩ := B00.out.three
  go_enter Tryz.func81, Tryz.ntmps81
  go_upto_if 31 with fail
  clear hW0 htl htl' ke ke2 k1 t0 t1
  go_cut [4] from 32 to 42 (fun s4 wy => s4 = .string ⟨ls.toArray⟩ ∧ Blk wy w.heap.size 102 #[.bool g, .string ⟨l.toArray⟩, .int .i64 xs] ∧ Blk wy (w.heap.size + 1) 107 #[.int .u64 0, .int .i64 0, .bool false] ∧ Below w.heap.size w wy)
  case first =>
    cases tl with
    | true =>
      rcases HSH.out with ⟨q1, q2, q3⟩ | ⟨q1, q2, q3⟩
      rotate_left
      · exact absurd (of_decide_eq_true HTL.out) (by omega)
      have k1 : (l.length : Int) - 801 + x = xs := by omega
      have k2 : x + ((l.length : Int) - 801) = xs := by omega
      have hext : (⟨l.toArray⟩ : ByteArray).extract 0 800 = ⟨(l.take 800).toArray⟩ := by rw [ext_cut]; unfold cutL; simp
      have hcat : (⟨(l.take 800).toArray⟩ : ByteArray) ++ ⟨#[49]⟩ = ⟨ls.toArray⟩ := by rw [q2]; exact sv_cat (l.take 800) [49]
      have hli : (800 : Int) ≤ (l.length : Int) := by omega
      have HXS2 := Lib.hid q3
      clear q1 q2 q3
      generalize hta : (⟨(l.take 800).toArray⟩ : ByteArray) = ta at *
      have hsz : ta.size = 800 := by
        rw [← hta, sv_len, List.length_take]
        omega
      have hlz : (⟨ls.toArray⟩ : ByteArray).size = 801 := by
        rw [← hcat, ByteArray.size_append, hsz]; rfl
      clear hta
      obtain ⟨u, hu⟩ : ∃ u : Int, (l.length : Int) - 801 = u := ⟨_, rfl⟩
      have kq1 : IntKind.i64.wrap ((l.length : Int) - 801) = u := by rw [IntWalk.i64_in _ (by omega)]; exact hu
      have hxu : x + u = xs := by omega
      have kq2 : IntKind.i64.wrap (x + u) = xs := by rw [IntWalk.i64_in _ (by have := HXS.out; omega)]; exact hxu
      have hle : 800 ≤ l.length := by omega
      clear k1 k2
      go_wp2_with fail
      go_meet
      exact ⟨rfl, B00.out.set1 2 _, B10.out.far (p := ⟨w.heap.size, 2, none⟩) (by simp) _, BB0.out.setCell (p := ⟨w.heap.size, 2, none⟩) (Nat.le_refl _) _⟩
    | false =>
      rcases HSH.out with ⟨q1, q2, q3⟩ | ⟨q1, q2, q3⟩
      · exact absurd q1 (of_decide_eq_false HTL.out)
      have HQ2 := Lib.hid q2
      have HQ3 := Lib.hid q3
      clear q1 q2 q3
      go_wp2_with fail
      go_meet
      exact ⟨by rw [HQ2.out], by rw [HQ3.out]; exact B00.out, B10.out, BB0.out⟩
  case rest =>
  obtain ⟨rfl, hk0, hk1, hkb⟩ := hcut
  have B0 := Lib.hid hk0
  have B1 := Lib.hid hk1
  have BB := Lib.hid hkb
  obtain ⟨c0_0, c0_1, c0_2, f0, f1, f2⟩ := hk0.three
  clear hk0 hk1 hkb c0 c1 c2
  clear c0_0 c0_1 c0_2 f0 f1 f2
  have c0_0 := B0.out.cell 0
  have c0_1 := B0.out.cell 1
  have c0_2 := B0.out.cell 2
  have c1_0 := B1.out.cell 0
  have c1_1 := B1.out.cell 1
  have c1_2 := B1.out.cell 2
  go_wp2_with fail
  refine (HP.out _).mono ?_
  rintro e w1 hm
  obtain ⟨A5, n5, c5, rfl, hl, hb⟩ := hm.small HBP.out
  clear hm
  have L1 := Nat.lt_of_lt_of_le B1.out.lt hb.size
  clear c0_0 c0_1 c0_2 c1_0 c1_1 c1_2
  have B0 := Lib.hid ((B0.out.st hb).alloc (.cells #[.slice A5 n5 c5] 75))
  have B1 := Lib.hid ((B1.out.st hb).alloc (.cells #[.slice A5 n5 c5] 75))
  have N0 := Lib.hid (hl.below (below_new _ (.cells #[.slice A5 n5 c5] 75)))
  have hbk := keepb BB.out hb
  have BB := Lib.hid (hbk.alloc hbk.size (.cells #[.slice A5 n5 c5] 75))
  have B2 := Lib.hid (Blk.new w1 75 #[.slice A5 n5 c5])
  clear hbk hb hl
  have c0_0 := B0.out.cell 0
  have c0_1 := B0.out.cell 1
  have c0_2 := B0.out.cell 2
  have c1_0 := B1.out.cell 0
  have c1_1 := B1.out.cell 1
  have c1_2 := B1.out.cell 2
  have c2_0 := B2.out.cell 0
  go_wp2_with fail
  refine (HO.out _).mono ?_
  rintro e w2 hm
  obtain ⟨A7, n7, c7, rfl, hl, hb⟩ := hm.open
  clear hm
  have L2 := Nat.lt_of_lt_of_le B2.out.lt hb.size
  clear c0_0 c0_1 c0_2 c1_0 c1_1 c1_2 c2_0
  have B0 := Lib.hid ((B0.out.st hb).alloc (.cells #[.slice A7 n7 c7] 75))
  have B1 := Lib.hid ((B1.out.st hb).alloc (.cells #[.slice A7 n7 c7] 75))
  have B2 := Lib.hid ((B2.out.st hb).alloc (.cells #[.slice A7 n7 c7] 75))
  have N0 := Lib.hid ((N0.out.below hb).below (below_new _ (.cells #[.slice A7 n7 c7] 75)))
  have N1 := Lib.hid (hl.below (below_new _ (.cells #[.slice A7 n7 c7] 75)))
  have hbk := keepb BB.out hb
  have BB := Lib.hid (hbk.alloc hbk.size (.cells #[.slice A7 n7 c7] 75))
  have B3 := Lib.hid (Blk.new w2 75 #[.slice A7 n7 c7])
  clear hbk hb hl
  have c0_0 := B0.out.cell 0
  have c0_1 := B0.out.cell 1
  have c0_2 := B0.out.cell 2
  have c1_0 := B1.out.cell 0
  have c1_1 := B1.out.cell 1
  have c1_2 := B1.out.cell 2
  have c2_0 := B2.out.cell 0
  have c3_0 := B3.out.cell 0
  cases hx0 : decide (0 ≤ xs) with
  | true =>
    have hx1 : 0 ≤ xs := of_decide_eq_true hx0
    have hxn : ((xs.toNat : Nat) : Int) = xs := by omega
    rw [hxn] at HTN
    have HD1 := Lib.hid (show denD (g', ls, xs) = 1 by rw [HDD.out, show (-xs).toNat = 0 by omega])
    clear hxn hx1
    go_upto_region 15 with fail
    clear hx0
    clear c0_0 c0_1 c0_2 c1_0 c1_1 c1_2 c2_0 c3_0
    have SAL : w.heap.size ≤ w.heap.size := Nat.le_refl _
    obtain ⟨S, SA⟩ : ∃ S : World → Prop, Go.RowKit.Hid (∀ x : World, S x ↔ (Blk x w.heap.size 102 #[.bool g, .string ⟨l.toArray⟩, .int .i64 xs] ∧ Blk x (w.heap.size + 1) 107 #[.int .u64 0, .int .i64 0, .bool false] ∧ Blk x w1.heap.size 75 #[.slice A5 n5 c5] ∧ Blk x w2.heap.size 75 #[.slice A7 n7 c7] ∧ NatL x A5 n5 c5 (dval ls) ∧ NatL x A7 n7 c7 (1) ∧ Below w.heap.size w x)) := ⟨_, Lib.hid (fun _ => Iff.rfl)⟩
    refine wp_region_way (S := S) (by kernel_rfl) (by kernel_rfl) (fun W W' h hb => by obtain ⟨hb0, hb1, hb2, hb3, hn0, hn1, hB⟩ := (SA.out _).1 h; exact (SA.out _).2 ⟨hb0.st hb, hb1.st hb, hb2.st hb, hb3.st hb, hn0.below hb, hn1.below hb, hB.trans (hb.mono (Nat.le_trans SAL hB.size))⟩) ((SA.out _).2 ⟨B0.out.drew, B1.out.drew, B2.out.drew, B3.out.drew, N0.out.below (below_drewN (Below.refl _ _) 1), N1.out.below (below_drewN (Below.refl _ _) 1), BB.out.drew⟩) ?_
    first
      | (refine Way.no 0 (by rfl) (by kernel_rfl) (by rfl) ?_; simp only [Act.put, List.setIfInBounds_toArray, List.set_cons_zero, List.set_cons_succ])
      | (refine' Way.yes 0 (by rfl) (by kernel_rfl) (by rfl) (fun wS hS => ?_) ?_
         rotate_left
         · have hS' := (SA.out _).1 hS
           obtain ⟨hb0, hb1, hb2, hb3, hn0, hn1, hB⟩ := hS'
           have c0_0 := hb0.cell 0
           have c0_1 := hb0.cell 1
           have c0_2 := hb0.cell 2
           have c1_0 := hb1.cell 0
           have c1_1 := hb1.cell 1
           have c1_2 := hb1.cell 2
           have c2_0 := hb2.cell 0
           have c3_0 := hb3.cell 0
           go_simp
           first
             | exact ⟨rfl, Below.refl _ _⟩
         simp only [Act.put, List.setIfInBounds_toArray, List.set_cons_zero, List.set_cons_succ])
    first
      | (refine Way.no 1 (by rfl) (by kernel_rfl) (by rfl) ?_; simp only [Act.put, List.setIfInBounds_toArray, List.set_cons_zero, List.set_cons_succ])
      | (refine' Way.yes 1 (by rfl) (by kernel_rfl) (by rfl) (fun wS hS => ?_) ?_
         rotate_left
         · have hS' := (SA.out _).1 hS
           obtain ⟨hb0, hb1, hb2, hb3, hn0, hn1, hB⟩ := hS'
           have c0_0 := hb0.cell 0
           have c0_1 := hb0.cell 1
           have c0_2 := hb0.cell 2
           have c1_0 := hb1.cell 0
           have c1_1 := hb1.cell 1
           have c1_2 := hb1.cell 2
           have c2_0 := hb2.cell 0
           have c3_0 := hb3.cell 0
           go_simp
           first
             | exact ⟨rfl, Below.refl _ _⟩
         simp only [Act.put, List.setIfInBounds_toArray, List.set_cons_zero, List.set_cons_succ])
    first
      | (refine Way.no 2 (by rfl) (by kernel_rfl) (by rfl) ?_; simp only [Act.put, List.setIfInBounds_toArray, List.set_cons_zero, List.set_cons_succ])
      | (refine' Way.yes 2 (by rfl) (by kernel_rfl) (by rfl) (fun wS hS => ?_) ?_
         rotate_left
         · have hS' := (SA.out _).1 hS
           obtain ⟨hb0, hb1, hb2, hb3, hn0, hn1, hB⟩ := hS'
           have c0_0 := hb0.cell 0
           have c0_1 := hb0.cell 1
           have c0_2 := hb0.cell 2
           have c1_0 := hb1.cell 0
           have c1_1 := hb1.cell 1
           have c1_2 := hb1.cell 2
           have c2_0 := hb2.cell 0
           have c3_0 := hb3.cell 0
           go_simp
           first
             | exact ⟨rfl, Below.refl _ _⟩
         simp only [Act.put, List.setIfInBounds_toArray, List.set_cons_zero, List.set_cons_succ])
    refine Way.move 3 (by rfl) (by kernel_rfl) (by rfl) (fun V3 hS => ?_)
    have hS' := (SA.out _).1 hS
    obtain ⟨hb0, hb1, hb2, hb3, hn0, hn1, hB⟩ := hS'
    have c0_0 := hb0.cell 0
    have c0_1 := hb0.cell 1
    have c0_2 := hb0.cell 2
    have c1_0 := hb1.cell 0
    have c1_1 := hb1.cell 1
    have c1_2 := hb1.cell 2
    have c2_0 := hb2.cell 0
    have c3_0 := hb3.cell 0
    go_simp
    with_reducible refine (HTN.out _).mono ?_
    rintro e w8 ⟨A8, n8, c8, rfl, hl, hb⟩
    refine ⟨_, rfl, ?_⟩
    obtain ⟨S_1, SA_1⟩ : ∃ S_1 : World → Prop, Go.RowKit.Hid (∀ x : World, S_1 x ↔ (Blk x w.heap.size 102 #[.bool g, .string ⟨l.toArray⟩, .int .i64 xs] ∧ Blk x (w.heap.size + 1) 107 #[.int .u64 0, .int .i64 0, .bool false] ∧ Blk x w1.heap.size 75 #[.slice A5 n5 c5] ∧ Blk x w2.heap.size 75 #[.slice A7 n7 c7] ∧ NatL x A5 n5 c5 (dval ls) ∧ NatL x A7 n7 c7 (1) ∧ NatL x A8 n8 c8 (10 ^ xs.toNat) ∧ Below w.heap.size w x)) := ⟨_, Lib.hid (fun _ => Iff.rfl)⟩
    have hst : Stays S_1 := fun W W' h hb => by obtain ⟨hb0, hb1, hb2, hb3, hn0, hn1, hn2, hB⟩ := (SA_1.out _).1 h; exact (SA_1.out _).2 ⟨hb0.st hb, hb1.st hb, hb2.st hb, hb3.st hb, hn0.below hb, hn1.below hb, hn2.below hb, hB.trans (hb.mono (Nat.le_trans SAL hB.size))⟩
    have hle : ∀ x, S_1 x → S x := fun x h => by obtain ⟨hb0, hb1, hb2, hb3, hn0, hn1, hn2, hB⟩ := (SA_1.out _).1 h; exact (SA.out _).2 ⟨hb0, hb1, hb2, hb3, hn0, hn1, hB⟩
    refine Moved.keep S_1 hst hle ((SA_1.out _).2 ⟨hb0.st hb, hb1.st hb, hb2.st hb, hb3.st hb, hn0.below hb, hn1.below hb, hl, hB.trans (hb.mono (Nat.le_trans SAL hB.size))⟩) ?_
    clear hst hle
    try simp only [Act.put, List.setIfInBounds_toArray, List.set_cons_zero, List.set_cons_succ]
    refine Way.move 4 (by rfl) (by kernel_rfl) (by rfl) (fun V4 hS => ?_)
    have hS' := (SA_1.out _).1 hS
    obtain ⟨hb0, hb1, hb2, hb3, hn0, hn1, hn2, hB⟩ := hS'
    have c0_0 := hb0.cell 0
    have c0_1 := hb0.cell 1
    have c0_2 := hb0.cell 2
    have c1_0 := hb1.cell 0
    have c1_1 := hb1.cell 1
    have c1_2 := hb1.cell 2
    have c2_0 := hb2.cell 0
    have c3_0 := hb3.cell 0
    go_simp
    with_reducible refine (mul_any _ _ _ _ _ _ _ _ _ hn0 hn2 HB4.out HB5.out).mono ?_
    rintro e w9 ⟨A9, n9, c9, rfl, hl, hb⟩
    refine ⟨_, rfl, ?_⟩
    obtain ⟨S_2, SA_2⟩ : ∃ S_2 : World → Prop, Go.RowKit.Hid (∀ x : World, S_2 x ↔ (Blk x w.heap.size 102 #[.bool g, .string ⟨l.toArray⟩, .int .i64 xs] ∧ Blk x (w.heap.size + 1) 107 #[.int .u64 0, .int .i64 0, .bool false] ∧ Blk x w1.heap.size 75 #[.slice A5 n5 c5] ∧ Blk x w2.heap.size 75 #[.slice A7 n7 c7] ∧ NatL x A5 n5 c5 (dval ls) ∧ NatL x A7 n7 c7 (1) ∧ NatL x A8 n8 c8 (10 ^ xs.toNat) ∧ NatL x A9 n9 c9 (dval ls * 10 ^ xs.toNat) ∧ Below w.heap.size w x)) := ⟨_, Lib.hid (fun _ => Iff.rfl)⟩
    have hst : Stays S_2 := fun W W' h hb => by obtain ⟨hb0, hb1, hb2, hb3, hn0, hn1, hn2, hn3, hB⟩ := (SA_2.out _).1 h; exact (SA_2.out _).2 ⟨hb0.st hb, hb1.st hb, hb2.st hb, hb3.st hb, hn0.below hb, hn1.below hb, hn2.below hb, hn3.below hb, hB.trans (hb.mono (Nat.le_trans SAL hB.size))⟩
    have hle : ∀ x, S_2 x → S_1 x := fun x h => by obtain ⟨hb0, hb1, hb2, hb3, hn0, hn1, hn2, hn3, hB⟩ := (SA_2.out _).1 h; exact (SA_1.out _).2 ⟨hb0, hb1, hb2, hb3, hn0, hn1, hn2, hB⟩
    refine Moved.keep S_2 hst hle ((SA_2.out _).2 ⟨hb0.st hb, hb1.st hb, hb2.st hb, hb3.st hb, hn0.below hb, hn1.below hb, hn2.below hb, hl, hB.trans (hb.mono (Nat.le_trans SAL hB.size))⟩) ?_
    clear hst hle
    try simp only [Act.put, List.setIfInBounds_toArray, List.set_cons_zero, List.set_cons_succ]
    first
      | (refine Way.no 5 (by rfl) (by kernel_rfl) (by rfl) ?_; simp only [Act.put, List.setIfInBounds_toArray, List.set_cons_zero, List.set_cons_succ])
      | (refine' Way.yes 5 (by rfl) (by kernel_rfl) (by rfl) (fun wS hS => ?_) ?_
         rotate_left
         · have hS' := (SA_2.out _).1 hS
           obtain ⟨hb0, hb1, hb2, hb3, hn0, hn1, hn2, hn3, hB⟩ := hS'
           have c0_0 := hb0.cell 0
           have c0_1 := hb0.cell 1
           have c0_2 := hb0.cell 2
           have c1_0 := hb1.cell 0
           have c1_1 := hb1.cell 1
           have c1_2 := hb1.cell 2
           have c2_0 := hb2.cell 0
           have c3_0 := hb3.cell 0
           go_simp
           first
             | exact ⟨rfl, Below.refl _ _⟩
         simp only [Act.put, List.setIfInBounds_toArray, List.set_cons_zero, List.set_cons_succ])
    first
      | (refine Way.no 6 (by rfl) (by kernel_rfl) (by rfl) ?_; simp only [Act.put, List.setIfInBounds_toArray, List.set_cons_zero, List.set_cons_succ])
      | (refine' Way.yes 6 (by rfl) (by kernel_rfl) (by rfl) (fun wS hS => ?_) ?_
         rotate_left
         · have hS' := (SA_2.out _).1 hS
           obtain ⟨hb0, hb1, hb2, hb3, hn0, hn1, hn2, hn3, hB⟩ := hS'
           have c0_0 := hb0.cell 0
           have c0_1 := hb0.cell 1
           have c0_2 := hb0.cell 2
           have c1_0 := hb1.cell 0
           have c1_1 := hb1.cell 1
           have c1_2 := hb1.cell 2
           have c2_0 := hb2.cell 0
           have c3_0 := hb3.cell 0
           go_simp
           first
             | exact ⟨rfl, Below.refl _ _⟩
         simp only [Act.put, List.setIfInBounds_toArray, List.set_cons_zero, List.set_cons_succ])
    first
      | (refine Way.no 7 (by rfl) (by kernel_rfl) (by rfl) ?_; simp only [Act.put, List.setIfInBounds_toArray, List.set_cons_zero, List.set_cons_succ])
      | (refine' Way.yes 7 (by rfl) (by kernel_rfl) (by rfl) (fun wS hS => ?_) ?_
         rotate_left
         · have hS' := (SA_2.out _).1 hS
           obtain ⟨hb0, hb1, hb2, hb3, hn0, hn1, hn2, hn3, hB⟩ := hS'
           have c0_0 := hb0.cell 0
           have c0_1 := hb0.cell 1
           have c0_2 := hb0.cell 2
           have c1_0 := hb1.cell 0
           have c1_1 := hb1.cell 1
           have c1_2 := hb1.cell 2
           have c2_0 := hb2.cell 0
           have c3_0 := hb3.cell 0
           go_simp
           first
             | exact ⟨rfl, Below.refl _ _⟩
         simp only [Act.put, List.setIfInBounds_toArray, List.set_cons_zero, List.set_cons_succ])
    refine Way.move 8 (by rfl) (by kernel_rfl) (by rfl) (fun wS hS => ?_)
    have hS' := (SA_2.out _).1 hS
    obtain ⟨hb0, hb1, hb2, hb3, hn0, hn1, hn2, hn3, hB⟩ := hS'
    have c0_0 := hb0.cell 0
    have c0_1 := hb0.cell 1
    have c0_2 := hb0.cell 2
    have c1_0 := hb1.cell 0
    have c1_1 := hb1.cell 1
    have c1_2 := hb1.cell 2
    have c2_0 := hb2.cell 0
    have c3_0 := hb3.cell 0
    have f2_0 := hb2.frozen 0
    go_simp
    obtain ⟨S_3, SA_3⟩ : ∃ S_3 : World → Prop, Go.RowKit.Hid (∀ x : World, S_3 x ↔ (Blk x w.heap.size 102 #[.bool g, .string ⟨l.toArray⟩, .int .i64 xs] ∧ Blk x (w.heap.size + 1) 107 #[.int .u64 0, .int .i64 0, .bool false] ∧ Blk x w1.heap.size 75 #[.slice A9 n9 c9] ∧ Blk x w2.heap.size 75 #[.slice A7 n7 c7] ∧ NatL x A5 n5 c5 (dval ls) ∧ NatL x A7 n7 c7 (1) ∧ NatL x A8 n8 c8 (10 ^ xs.toNat) ∧ NatL x A9 n9 c9 (dval ls * 10 ^ xs.toNat) ∧ Below w.heap.size w x)) := ⟨_, Lib.hid (fun _ => Iff.rfl)⟩
    have hst : Stays S_3 := fun W W' h hb => by obtain ⟨hb0, hb1, hb2, hb3, hn0, hn1, hn2, hn3, hB⟩ := (SA_3.out _).1 h; exact (SA_3.out _).2 ⟨hb0.st hb, hb1.st hb, hb2.st hb, hb3.st hb, hn0.below hb, hn1.below hb, hn2.below hb, hn3.below hb, hB.trans (hb.mono (Nat.le_trans SAL hB.size))⟩
    refine Moved.turn S_3 hst (by kernel_rfl) ((SA_3.out _).2 ⟨(hb0.far (by first | (simp; done) | (simp; omega)) _), (hb1.far (by first | (simp; done) | (simp; omega)) _), (hb2.set1 0 _), (hb3.far (by first | (simp; done) | (simp; omega)) _), (hn0.set hb2 (by decide) _), (hn1.set hb2 (by decide) _), (hn2.set hb2 (by decide) _), (hn3.set hb2 (by decide) _), (hB.setCell (by first | (simp; done) | (simp; omega)) _)⟩) ?_
    clear hst
    try simp only [Act.put, List.setIfInBounds_toArray, List.set_cons_zero, List.set_cons_succ]
    refine Way.done (by kernel_rfl) (fun wE hS => ?_)
    have hS' := (SA_3.out _).1 hS
    obtain ⟨hb0, hb1, hb2, hb3, hn0, hn1, hn2, hn3, hB⟩ := hS'
    have c0_0 := hb0.cell 0
    have c0_1 := hb0.cell 1
    have c0_2 := hb0.cell 2
    have c1_0 := hb1.cell 0
    have c1_1 := hb1.cell 1
    have c1_2 := hb1.cell 2
    have c2_0 := hb2.cell 0
    have c3_0 := hb3.cell 0
    clear hS
    have HZ := Lib.hid hb1
    have HBX := Lib.hid hB
    have HR := Lib.hid (HRA.out _ _ _ (by rw [HND.out]; exact hn3.w) (by rw [HD1.out]; exact hn1.w))
    clear hb0 hb1 hn0 hn1 hn2 hn3 hB
    go_wp2_with fail
    refine HR.out.mono ?_
    rintro e w10 ⟨rfl, hb10⟩
    have HZ2 := Lib.hid (HZ.out.below hb10 HZ.out.lt)
    have HB2 := Lib.hid (keepb HBX.out hb10)
    obtain ⟨d0, d1, d2, g0, g1, g2⟩ := HZ2.out.three
    clear hb10
    go_simp
    repeat go_step
    obtain ⟨x0, x1, x2⟩ := HZ2.out.put3 (.int .u64 (cv0 : Nat)) (.int .i64 cv1) (.bool cv2)
    exact bodyPost_ret (v := .agg #[.int .u64 (cv0 : Nat), .int .i64 cv1, .bool cv2]) (by simp [results, Tryz.results81, go_sem, x0, x1, x2]) rfl ⟨rfl, below_put3 HB2.out (by omega) _ _ _⟩
  | false =>
    have hx1 : ¬ 0 ≤ xs := of_decide_eq_false hx0
    have hxn : (((-xs).toNat : Nat) : Int) = -xs := by omega
    have k4 : IntKind.i64.wrap (-xs) = -xs := IntWalk.i64_in _ (by have := HXS.out; omega)
    rw [hxn] at HTD
    have HN1 := Lib.hid (show numD (g', ls, xs) = dval ls by rw [HND.out, show xs.toNat = 0 by omega, Nat.pow_zero, Nat.mul_one])
    clear hxn hx1
    go_wp2_with fail
    refine (HTD.out _).mono ?_
    rintro e w8 ⟨A8, n8, c8, rfl, hl, hb⟩
    clear c0_0 c0_1 c0_2 c1_0 c1_1 c1_2 c2_0 c3_0
    have B0 := Lib.hid (B0.out.st hb)
    have B1 := Lib.hid (B1.out.st hb)
    have B2 := Lib.hid (B2.out.st hb)
    have B3 := Lib.hid (B3.out.st hb)
    have N0 := Lib.hid (N0.out.below hb)
    have N2 := Lib.hid hl
    have BB := Lib.hid (keepb BB.out hb)
    clear hb hl k4 hx0
    have c0_0 := B0.out.cell 0
    have c0_1 := B0.out.cell 1
    have c0_2 := B0.out.cell 2
    have c1_0 := B1.out.cell 0
    have c1_1 := B1.out.cell 1
    have c1_2 := B1.out.cell 2
    have c2_0 := B2.out.cell 0
    have c3_0 := B3.out.cell 0
    have hfr := B3.out.frozen 0
    go_upto_region 17 with fail
    clear c0_0 c0_1 c0_2 c1_0 c1_1 c1_2 c2_0 c3_0
    have Z0 := B3.out.set1 0 (.slice A8 n8 c8)
    have Z1 := B1.out.far (p := ⟨w2.heap.size, 0, none⟩) (by simp <;> omega) (.slice A8 n8 c8)
    have Z2 := B2.out.far (p := ⟨w2.heap.size, 0, none⟩) (by simp <;> omega) (.slice A8 n8 c8)
    have z2 := Z2.cell 0
    have z0 := Z0.cell 0
    have ZN := N0.out.set B3.out (by decide) (i := 0) (.slice A8 n8 c8)
    have ZM := N2.out.set B3.out (by decide) (i := 0) (.slice A8 n8 c8)
    have ZB := BB.out.setCell (p := ⟨w2.heap.size, 0, none⟩) (by simp <;> omega) (.slice A8 n8 c8)
    have HZ := Lib.hid Z1
    have HBX := Lib.hid ZB
    have HR := Lib.hid (HRA.out _ _ _ (by rw [HN1.out]; exact ZN.w) (by rw [HDD.out]; exact ZM.w))
    clear Z0 Z1 Z2 ZN ZM ZB
    go_wp2_with fail
    refine HR.out.mono ?_
    rintro e w10 ⟨rfl, hb10⟩
    have HZ2 := Lib.hid (HZ.out.below hb10 HZ.out.lt)
    have HB2 := Lib.hid (keepb HBX.out hb10)
    obtain ⟨d0, d1, d2, g0, g1, g2⟩ := HZ2.out.three
    clear hb10
    go_simp
    repeat go_step
    obtain ⟨x0, x1, x2⟩ := HZ2.out.put3 (.int .u64 (cv0 : Nat)) (.int .i64 cv1) (.bool cv2)
    exact bodyPost_ret (v := .agg #[.int .u64 (cv0 : Nat), .int .i64 cv1, .bool cv2]) (by simp [results, Tryz.results81, go_sem, x0, x1, x2]) rfl ⟨rfl, below_put3 HB2.out (by omega) _ _ _⟩

end Go.Proofs.YtnajondbdeclmaaGreatDoor

namespace Go.Proofs.YtnajondbdeclmaaGreatDoor
open Go.RowKit
set_option linter.unusedSimpArgs false
set_option linter.unusedVariables false

theorem floor_any (d : Dm) (w : World) (hb : Bare d) (hn : d.2.1.length ≤ 140737488353000) (hx : -1000000000000000 ≤ d.2.2 ∧ d.2.2 ≤ 1000000000000000) :
    Calls Tryz.prog 81 #[decV d] w fun e w' => e = .returned (cutV (floorP d)) ∧ Below w.heap.size w w' := by
  obtain ⟨g, l, x⟩ := d
  by_cases hl : l = []
  · subst hl
    have : floorP (g, [], x) = (0, 0, true) := by unfold floorP; rw [if_pos rfl]
    rw [this]
    exact floor_nil g x w hx
  · have hlead := hb.lead hl
    by_cases h1 : 310 < (l.length : Int) + x
    · have : floorP (g, l, x) = (most, 1, false) := by unfold floorP topD; rw [if_neg hl, if_pos h1]
      rw [this]
      exact floor_great g l x w hl hn hx h1
    · by_cases h2 : (l.length : Int) + x < -330
      · have : floorP (g, l, x) = (0, -1, false) := by unfold floorP topD; rw [if_neg hl, if_neg h1, if_pos h2]
        rw [this]
        exact floor_tiny g l x w hl hn hx h2
      · have : floorP (g, l, x) = cutP (numD (shortD (g, l, x))) (denD (shortD (g, l, x))) := by unfold floorP topD; rw [if_neg hl, if_neg h1, if_neg h2]
        rw [this]
        exact floor_mid g l x w hlead hn hx (by omega) (by omega)

theorem cutB_most (A B : Nat) : cutB A B ≤ most := by unfold cutB; omega
theorem floorP_most (d : Dm) : (floorP d).1 ≤ most := by
  unfold floorP
  split
  · exact Nat.zero_le _
  · split
    · exact Nat.le_refl _
    · split
      · exact Nat.zero_le _
      · exact cutB_most _ _
def roundV (o : Option Nat) : Value := match o with
  | some b => .tuple #[.int .u64 (b : Nat), .nilIface]
  | none => .tuple #[.int .u64 0, enoV 41]
theorem roundV_some (b : Nat) : roundV (some b) = .tuple #[.int .u64 (b : Nat), .nilIface] := rfl
theorem roundV_none : roundV none = .tuple #[.int .u64 0, enoV 41] := rfl

theorem and_one (y : Nat) (hy : y < 18446744073709551616) : bits .and .u64 (y : Int) 1 = ((y % 2 : Nat) : Int) := by
  have h := bits_and_u64_nat y 1 hy (by omega)
  rw [show y &&& 1 = y % 2 from Nat.and_two_pow_sub_one_eq_mod y 1] at h
  exact h
theorem or_top (b : Nat) (hb : b < 9223372036854775808) : bits .or .u64 (b : Int) 9223372036854775808 = ((b + 9223372036854775808 : Nat) : Int) := by
  have h1 : (BitVec.ofInt 64 (b : Int)).toNat = b := by
    rw [BitVec.ofInt_natCast, BitVec.toNat_ofNat]; exact Nat.mod_eq_of_lt (by omega)
  have h2 : (BitVec.ofInt 64 (9223372036854775808 : Int)).toNat = 9223372036854775808 := by decide
  show IntKind.u64.wrap ((BitVec.ofInt 64 (b : Int) ||| BitVec.ofInt 64 (9223372036854775808 : Int)).toNat : Int) = _
  rw [BitVec.toNat_or, h1, h2, Nat.or_comm]
  have := Nat.two_pow_add_eq_or_of_lt (b := b) (i := 63) hb 1
  rw [show (9223372036854775808 : Nat) = 2 ^ 63 * 1 from rfl, ← this]
  rw [show 2 ^ 63 * 1 + b = b + 2 ^ 63 * 1 from Nat.add_comm _ _]
  exact wrapN _ (by unfold W64; omega)

set_option maxRecDepth 100000 in
set_option maxHeartbeats 2000000 in
theorem rounded_any (d : Dm) (way : Int) (w : World) (hb : Bare d) (hn : d.2.1.length ≤ 140737488353000) (hx : -1000000000000000 ≤ d.2.2 ∧ d.2.2 ≤ 1000000000000000) (hw : 1 ≤ way ∧ way ≤ 5) :
    Calls Tryz.prog 121 #[decV d, .int .i64 way] w fun e w' => e = .returned (roundV (roundP d way)) ∧ Below w.heap.size w w' := by
  have HF := Lib.hid (fun W => floor_any d W hb hn hx)
  have hm := floorP_most d
  have HRP := Lib.hid (show roundP d way = endP d.1 (if upP d.1 (floorP d) way then (floorP d).1 + 1 else (floorP d).1) from rfl)
  generalize roundP d way = rp at *
  generalize floorP d = c at *
  obtain ⟨b, h, x⟩ := c
  obtain ⟨g, l, y⟩ := d
  unfold decV cutV sv at *
  simp only at HF HRP hm
  clear hb hn hx
  have HM := Lib.hid hm
  clear hm
  generalize hup : upP g (b, h, x) way = up at *
  have HB0 := Lib.hid ((Below.refl _ w).alloc (Nat.le_refl _) (.cells #[.bool g, .string ⟨l.toArray⟩, .int .i64 y] 102))
  have HK0 := Lib.hid (Blk.new w 102 #[.bool g, .string ⟨l.toArray⟩, .int .i64 y])
  have HUP := Lib.hid hup
  clear hup
  go_enter Tryz.func121, Tryz.ntmps121
  go_wp2_with fail
  refine (HF.out _).mono ?_
  rintro e w1 ⟨rfl, hb1⟩
  have HK1 := Lib.hid ((HK0.out.below hb1 HK0.out.lt).alloc (.cells #[.int .u64 (b : Int), .int .i64 h, .bool x] 107))
  have HJ1 := Lib.hid (Blk.new w1 107 #[.int .u64 (b : Int), .int .i64 h, .bool x])
  have HB1 := Lib.hid ((keepb HB0.out hb1).alloc (keepb HB0.out hb1).size (.cells #[.int .u64 (b : Int), .int .i64 h, .bool x] 107))
  have HLT := Lib.hid (show w.heap.size < w1.heap.size from Nat.lt_of_lt_of_le HK0.out.lt hb1.size)
  clear hb1
  generalize hW1 : (w1.alloc (.cells #[.int .u64 (b : Int), .int .i64 h, .bool x] 107)) = W1 at *
  obtain ⟨c0, c1, c2, f0, f1, f2⟩ := HK1.out.three
  obtain ⟨d0, d1, d2, g0, g1, g2⟩ := HJ1.out.three
  go_upto_block 0 with fail
  clear hW1
  go_cut [7] from 11 to 51 (fun s7 wy => s7 = .bool up ∧ wy = W1)
  case first =>
    rcases (show way = 1 ∨ way = 2 ∨ way = 3 ∨ way = 4 ∨ way = 5 by omega) with rfl | rfl | rfl | rfl | rfl
    · have hu := HUP.out
      clear hw
      by_cases hh : h = 0
      · subst hh
        have hev : up = (!(b % 2 == 0) && !x) := by
          rw [← hu]; unfold upP; simp
        have hand := and_one b (by have := HM.out; unfold most at this; omega)
        clear hu
        rcases Nat.mod_two_eq_zero_or_one b with hm2 | hm2
        · rw [hm2] at hev hand
          have HU2 := Lib.hid hev
          have hand : bits BinOp.and IntKind.u64 (b : Int) 1 = 0 := hand
          clear hev hm2
          go_wp2_with fail
          go_meet
          exact ⟨by rw [HU2.out]; rfl, rfl⟩
        · rw [hm2] at hev hand
          have HU2 := Lib.hid hev
          have hand : bits BinOp.and IntKind.u64 (b : Int) 1 = 1 := hand
          clear hev hm2
          go_wp2_with fail
          go_meet
          exact ⟨by rw [HU2.out]; cases x <;> rfl, rfl⟩
      · have t1 : (h == 0) = false := by simpa using hh
        have hu2 : up = (decide (0 ≤ h) && !x) := by
          rw [← hu]; unfold upP; simp [t1]
        by_cases h0 : 0 ≤ h
        · have t2 : decide (0 ≤ h) = true := decide_eq_true h0
          rw [t2] at hu2
          have HU2 := Lib.hid hu2
          clear hh h0 hu hu2
          go_wp2_with fail
          go_meet
          exact ⟨by rw [HU2.out]; cases x <;> rfl, rfl⟩
        · have t2 : decide (0 ≤ h) = false := decide_eq_false h0
          rw [t2] at hu2
          have HU2 := Lib.hid hu2
          clear hh h0 hu hu2
          go_wp2_with fail
          go_meet
          exact ⟨by rw [HU2.out]; rfl, rfl⟩
    · have hu := HUP.out
      clear hw
      have hu2 : up = (decide (0 ≤ h) && !x) := by
        rw [← hu]; unfold upP; simp
      by_cases h0 : 0 ≤ h
      · have t2 : decide (0 ≤ h) = true := decide_eq_true h0
        rw [t2] at hu2
        have HU2 := Lib.hid hu2
        clear h0 hu hu2
        go_wp2_with fail
        go_meet
        exact ⟨by rw [HU2.out]; cases x <;> rfl, rfl⟩
      · have t2 : decide (0 ≤ h) = false := decide_eq_false h0
        rw [t2] at hu2
        have HU2 := Lib.hid hu2
        clear h0 hu hu2
        go_wp2_with fail
        go_meet
        exact ⟨by rw [HU2.out]; rfl, rfl⟩
    · have HU2 := Lib.hid (show up = false by rw [← HUP.out]; unfold upP; simp)
      clear hw
      go_wp2_with fail
      go_meet
      exact ⟨by rw [HU2.out], rfl⟩
    · have HU2 := Lib.hid (show up = (g && !x) by rw [← HUP.out]; unfold upP; simp)
      clear hw
      cases g with
      | true =>
        go_wp2_with fail
        go_meet
        exact ⟨by rw [HU2.out]; cases x <;> rfl, rfl⟩
      | false =>
        go_wp2_with fail
        go_meet
        exact ⟨by rw [HU2.out]; rfl, rfl⟩
    · have HU2 := Lib.hid (show up = (!g && !x) by rw [← HUP.out]; unfold upP; simp)
      clear hw
      cases g with
      | true =>
        go_wp2_with fail
        go_meet
        exact ⟨by rw [HU2.out]; rfl, rfl⟩
      | false =>
        go_wp2_with fail
        go_meet
        exact ⟨by rw [HU2.out]; cases x <;> rfl, rfl⟩
  case rest =>
  obtain ⟨rfl, rfl⟩ := hcut
  have hmb := HM.out
  have hb1 : IntKind.u64.wrap ((b : Int) + 1) = ((b + 1 : Nat) : Int) := by rw [IntWalk.u64_in _ (by unfold most at hmb; omega)]; omega
  have HQ : Hid (∃ b' : Nat, b' = (if up then b + 1 else b) ∧ b' ≤ most + 1) := Lib.hid ⟨_, rfl, by split <;> omega⟩
  clear hw hmb
  go_upto_if 51 with fail
  go_cut [52] from 52 to 56 (fun s52 wy => Blk wy w1.heap.size 107 #[.int .u64 ((if up then b + 1 else b : Nat) : Int), .int .i64 h, .bool x] ∧ Blk wy w.heap.size 102 #[.bool g, .string ⟨l.toArray⟩, .int .i64 y] ∧ Below w.heap.size w wy)
  case first =>
    cases up with
    | true =>
      go_wp2_with fail
      go_meet
      exact ⟨HJ1.out.set1 0 _, HK1.out.far (p := ⟨w1.heap.size, 0, none⟩) (Nat.ne_of_lt HLT.out) _, HB1.out.setCell (p := ⟨w1.heap.size, 0, none⟩) (Nat.le_of_lt HLT.out) _⟩
    | false =>
      go_wp2_with fail
      go_meet
      exact ⟨HJ1.out, HK1.out, HB1.out⟩
  case rest =>
  obtain ⟨hk, hj, hb⟩ := hcut
  obtain ⟨b', hb', hbm⟩ := HQ.out
  rw [← hb'] at hk HRP
  have HJ2 := Lib.hid hk
  have HK2 := Lib.hid hj
  have HB2 := Lib.hid hb
  have HBM := Lib.hid hbm
  clear hk hj hb hb' hbm c0 c1 c2 f0 f1 f2 d0 d1 d2 g0 g1 g2 hb1 HJ1 HK1 HB1 HQ
  obtain ⟨c0, c1, c2, f0, f1, f2⟩ := HK2.out.three
  obtain ⟨d0, d1, d2, g0, g1, g2⟩ := HJ2.out.three
  by_cases ho : most < b'
  · have HR2 := Lib.hid (show rp = none by rw [HRP.out]; unfold endP; rw [if_pos ho])
    have t1 : decide ((9218868437227405311 : Int) < (b' : Int)) = true := decide_eq_true (by unfold most at ho; omega)
    have t1' : decide (9218868437227405311 < b') = true := decide_eq_true (by unfold most at ho; omega)
    clear ho
    go_wp2_with fail
    go_ret2
    exact ⟨by rw [HR2.out] <;> rfl, HB2.out⟩
  · have HR2 := Lib.hid (show rp = some (if g && decide (0 < b') then b' + 9223372036854775808 else b') by rw [HRP.out]; unfold endP; rw [if_neg ho])
    have t1 : decide ((9218868437227405311 : Int) < (b' : Int)) = false := decide_eq_false (by unfold most at ho; omega)
    have t1' : decide (9218868437227405311 < b') = false := decide_eq_false (by unfold most at ho; omega)
    have HOT := Lib.hid (or_top b' (by unfold most at ho; omega))
    clear ho
    cases g with
    | false =>
      have HR3 := Lib.hid (show rp = some b' by rw [HR2.out]; rfl)
      go_wp2_with fail
      go_ret2
      exact ⟨by rw [HR3.out] <;> rfl, HB2.out⟩
    | true =>
      rcases Nat.eq_zero_or_pos b' with hz | hz
      · subst hz
        have HR3 := Lib.hid (show rp = some 0 by rw [HR2.out]; rfl)
        go_wp2_with fail
        go_ret2
        exact ⟨by rw [HR3.out] <;> rfl, HB2.out⟩
      · have HR3 := Lib.hid (show rp = some (b' + 9223372036854775808) by rw [HR2.out]; simp [hz])
        have t2 : decide ((0 : Int) < (b' : Int)) = true := decide_eq_true (by omega)
        have t2' : decide (0 < b') = true := decide_eq_true hz
        have hot := HOT.out
        generalize hz' : b' + 9223372036854775808 = z at *
        clear hz hz' HOT
        go_wp2_with fail
        go_ret2
        exact ⟨by rw [HR3.out] <;> rfl, HB2.out.setCell (p := ⟨w1.heap.size, 0, none⟩) (Nat.le_of_lt HLT.out) _⟩
end Go.Proofs.YtnajondbdeclmaaGreatDoor
