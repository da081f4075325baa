/- The walk of dec.Against. -/
import Derived.Test.YtnajondbdeclmaaGreatDoorDecN
import Derived.Test.YtnajondbdeclmaaGreatDoorDecS
namespace Go.Proofs.YtnajondbdeclmaaGreatDoor
open Go.RowKit
set_option linter.unusedSimpArgs false
set_option linter.unusedVariables false

theorem call_from (n : Nat) (w : World) :
    (callFunc 18 #[.int .u64 (n : Int)]).run Tryz.prog w = .ok (.value (.float .f64 n)) w := by
  rw [run_callFunc_extern Tryz.func18 (by kernel_rfl) (by kernel_rfl) (by kernel_rfl) (e := Extern.MathFloatBits.float64frombits) (by kernel_rfl)]
  rfl
theorem call_bits (n : Nat) (w : World) :
    (callFunc 29 #[.float .f64 n]).run Tryz.prog w = .ok (.value (.int .u64 (n : Int))) w := by
  rw [run_callFunc_extern Tryz.func29 (by kernel_rfl) (by kernel_rfl) (by kernel_rfl) (e := Extern.MathFloatBits.float64bits) (by kernel_rfl)]
  rfl
theorem andnot_top (n : Nat) (hn : n < 18446744073709551616) : bits .andNot .u64 (n : Int) 9223372036854775808 = ((n % 9223372036854775808 : Nat) : Int) := by
  have h1 : (BitVec.ofInt 64 (n : Int)).toNat = n := by
    rw [BitVec.ofInt_natCast, BitVec.toNat_ofNat]; exact Nat.mod_eq_of_lt (by omega)
  have h2 : (~~~(BitVec.ofInt 64 (9223372036854775808 : Int))).toNat = 9223372036854775807 := by decide
  show IntKind.u64.wrap ((BitVec.ofInt 64 (n : Int) &&& ~~~(BitVec.ofInt 64 (9223372036854775808 : Int))).toNat : Int) = _
  rw [BitVec.toNat_and, h1, h2, show n &&& 9223372036854775807 = n % 9223372036854775808 from Nat.and_two_pow_sub_one_eq_mod n 63]
  exact IntWalk.u64_in _ (by omega)

theorem isnan_any (n : Nat) (o : Option Ordering) (w : World) (ho : FloatKind.f64.format.order n n = o) :
    Calls Tryz.prog 77 #[.float .f64 n] w fun e w' => e = .returned (.bool (o != some .eq)) ∧ w = w' := by
  go_enter Tryz.func77, Tryz.ntmps77
  go_wp2_with fail
  go_ret
  exact ⟨rfl, rfl⟩
theorem abs_any (n : Nat) (w : World) (hn : n < 18446744073709551616) :
    Calls Tryz.prog 68 #[.float .f64 n] w fun e w' => e = .returned (.float .f64 (n % 9223372036854775808)) ∧ w = w' := by
  have h := andnot_top n hn
  have c1 := call_bits n
  have c2 := call_from (n % 9223372036854775808)
  generalize n % 9223372036854775808 = m at *
  clear hn
  go_enter Tryz.func68, Tryz.ntmps68
  go_wp2_with fail
  go_ret
  exact ⟨rfl, rfl⟩
theorem isinf_any (n : Nat) (o : Option Ordering) (w : World) (hn : n < 18446744073709551616) (ho : FloatKind.f64.format.order (n % 9223372036854775808) 9218868437227405311 = o) :
    Calls Tryz.prog 78 #[.float .f64 n, .int .i64 0] w fun e w' => e = .returned (.bool (o == some .gt)) ∧ w = w' := by
  have HA := Lib.hid (fun W => abs_any n W hn)
  generalize n % 9223372036854775808 = m at *
  clear hn
  go_enter Tryz.func78, Tryz.ntmps78
  go_wp2_with fail
  refine (HA.out _).mono ?_
  rintro e w1 ⟨rfl, rfl⟩
  go_wp2_with fail
  go_ret
  exact ⟨rfl, rfl⟩

/-- Whether bits are a float's that is a number. -/
def finB (n : Nat) : Bool := decide (n % 9223372036854775808 ≤ most)
theorem fin_nan {n : Nat} (hn : n < 18446744073709551616) (h : finB n = true) :
    FloatKind.f64.format.order n n = some .eq ∧ ∃ o, FloatKind.f64.format.order (n % 9223372036854775808) 9218868437227405311 = o ∧ (o == some .gt) = false := by
  have hm : n % 9223372036854775808 ≤ most := of_decide_eq_true h
  refine ⟨by rw [order_sv hn hm hn hm, if_neg (by omega), if_pos rfl], _, order_sv (by omega) (by rw [Nat.mod_mod]; exact hm) (by decide) (by decide), ?_⟩
  have h1 : svI (n % 9223372036854775808) ≤ svI 9218868437227405311 := by
    unfold svI
    rw [if_pos (by omega), if_pos (by decide)]
    have := Fl_le.2 (show n % 9223372036854775808 ≤ 9218868437227405311 from hm)
    omega
  split
  · rfl
  · split
    · rfl
    · omega
theorem inf_nan {n : Nat} (hn : n < 18446744073709551616) (h : finB n = false) :
    (FloatKind.f64.format.order n n = none) ∨ (FloatKind.f64.format.order n n = some .eq ∧ FloatKind.f64.format.order (n % 9223372036854775808) 9218868437227405311 = some .gt) := by
  have hm : ¬ n % 9223372036854775808 ≤ most := of_decide_eq_false h
  unfold most at hm
  by_cases he : n % 9223372036854775808 = 9218868437227405312
  · right
    have r1 : FloatKind.f64.format.read n = .infinity (n / 9223372036854775808 % 2 == 1) := by
      unfold Ieee.Format.read
      rw [f64_sign, f64_binade, f64_inf, f64_least]
      simp only [he]
      rfl
    have r2 : FloatKind.f64.format.read (n % 9223372036854775808) = .infinity false := by rw [he]; decide
    have r3 : ∃ m e, FloatKind.f64.format.read 9218868437227405311 = .number false m e := ⟨_, _, rfl⟩
    obtain ⟨m, e, r3⟩ := r3
    unfold Ieee.Format.order
    rw [r1, r2, r3]
    refine ⟨?_, rfl⟩
    show some (compare _ _) = _
    rw [show ∀ a : Nat, compare a a = .eq from fun a => Nat.compare_eq_eq.2 rfl]
  · left
    have r1 : ∃ s f, FloatKind.f64.format.read n = .nan s f := by
      unfold Ieee.Format.read
      rw [f64_sign, f64_binade, f64_inf, f64_least]
      simp only []
      rw [if_neg (by omega), if_neg (by omega), if_neg he]
      exact ⟨_, _, rfl⟩
    obtain ⟨s, f, r1⟩ := r1
    unfold Ieee.Format.order
    rw [r1]
    rfl

/-- How a decimal stands to the float of some bits. -/
def fsign (n : Nat) : Int := if svI n < 0 then -1 else if svI n = 0 then 0 else 1
def againC (s : Int) (c : Nat × Int × Bool) (m : Nat) : Int := if m ≤ c.1 ∧ ¬ (c.1 = m ∧ c.2.2 = true) then s else if c.1 < m then -s else 0
def againP (d : Dm) (n : Nat) : Int := if signP d < fsign n then -1 else if fsign n < signP d then 1 else if signP d = 0 then 0 else againC (signP d) (floorP d) (n % 9223372036854775808)
theorem order_nought {n : Nat} (hn : n < 18446744073709551616) (h : finB n = true) :
    (fsign n = -1 ∧ FloatKind.f64.format.order n 0 = some .lt) ∨ (fsign n = 0 ∧ FloatKind.f64.format.order n 0 = some .eq) ∨ (fsign n = 1 ∧ FloatKind.f64.format.order n 0 = some .gt) := by
  have hm : n % 9223372036854775808 ≤ most := of_decide_eq_true h
  rw [order_sv hn hm (by decide) (by decide), sv_nought]
  unfold fsign
  rcases Int.lt_trichotomy (svI n) 0 with k | k | k
  · left; rw [if_pos k, if_pos k]; exact ⟨rfl, rfl⟩
  · right; left; rw [if_neg (by omega), if_pos k, if_neg (by omega), if_pos k]; exact ⟨rfl, rfl⟩
  · right; right; rw [if_neg (by omega), if_neg (by omega), if_neg (by omega), if_neg (by omega)]; exact ⟨rfl, rfl⟩

set_option maxRecDepth 100000 in
theorem against_bad (s : List UInt8) (n : Nat) (w : World) (hn : n < 18446744073709551616) (hf : finB n = false) :
    Calls Tryz.prog 36 #[sv s, .int .u64 (n : Int)] w fun e w' => e = .returned (.tuple #[.int .i64 0, enoV 2]) ∧ Below w.heap.size w w' := by
  have cf := call_from n
  rcases inf_nan hn hf with h | ⟨h, k⟩
  · have HN := Lib.hid (fun W => isnan_any n _ W h)
    clear h hn hf
    unfold sv
    go_enter Tryz.func36, Tryz.ntmps36
    go_wp2_with fail
    refine (HN.out _).mono ?_
    rintro e w1 ⟨rfl, rfl⟩
    go_wp2_with fail
    go_ret2
    exact ⟨rfl, Below.refl _ _⟩
  · have HN := Lib.hid (fun W => isnan_any n _ W h)
    have HI := Lib.hid (fun W => isinf_any n _ W hn k)
    clear h k hn hf
    unfold sv
    go_enter Tryz.func36, Tryz.ntmps36
    go_wp2_with fail
    refine (HN.out _).mono ?_
    rintro e w1 ⟨rfl, rfl⟩
    go_wp2_with fail
    refine (HI.out _).mono ?_
    rintro e w1 ⟨rfl, rfl⟩
    go_wp2_with fail
    go_ret2
    exact ⟨rfl, Below.refl _ _⟩
set_option maxRecDepth 100000 in
theorem against_wrong (s : List UInt8) (n q : Nat) (w : World) (hs : s.length ≤ 140737488353000) (hn : n < 18446744073709551616) (hf : finB n = true) (hq : wrongP s = some q) :
    Calls Tryz.prog 36 #[sv s, .int .u64 (n : Int)] w fun e w' => e = .returned (.tuple #[.int .i64 0, spotV 40 (q : Nat)]) ∧ Below w.heap.size w w' := by
  have cf := call_from n
  obtain ⟨h, o, ho, hg⟩ := fin_nan hn hf
  have HN := Lib.hid (fun W => isnan_any n _ W h)
  have HI := Lib.hid (fun W => isinf_any n o W hn ho)
  rw [hg] at HI
  have HR := Lib.hid (fun W => parsed_any s W hs)
  have HV := Lib.hid (show parsedV s = .tuple #[.agg #[.bool false, .string ⟨#[]⟩, .int .i64 0], spotV 40 (q : Nat)] by unfold parsedV; rw [hq]; rfl)
  rw [HV.out] at HR
  clear h ho hg hn hf hs hq
  unfold sv at *
  go_enter Tryz.func36, Tryz.ntmps36
  go_wp2_with fail
  refine (HN.out _).mono ?_
  rintro e w1 ⟨rfl, rfl⟩
  go_wp2_with fail
  refine (HI.out _).mono ?_
  rintro e w1 ⟨rfl, rfl⟩
  go_wp2_with fail
  refine (HR.out _).mono ?_
  rintro e w1 ⟨rfl, hb1⟩
  go_wp2_with fail
  go_ret2
  exact ⟨rfl, hb1.alloc hb1.size _⟩

set_option maxRecDepth 100000 in
set_option maxHeartbeats 2000000 in
theorem against_ok (s : List UInt8) (n : Nat) (w : World) (hs : s.length ≤ 140737488353000) (hn : n < 18446744073709551616) (hf : finB n = true) (hq : wrongP s = none) :
    Calls Tryz.prog 36 #[sv s, .int .u64 (n : Int)] w fun e w' => e = .returned (.tuple #[.int .i64 (againP (bareP s) n), .nilIface]) ∧ Below w.heap.size w w' := by
  have cf := call_from n
  obtain ⟨h, o, ho, hg⟩ := fin_nan hn hf
  have HN := Lib.hid (fun W => isnan_any n _ W h)
  have HI := Lib.hid (fun W => isinf_any n o W hn ho)
  rw [hg] at HI
  have HR := Lib.hid (fun W => parsed_any s W hs)
  have HV := Lib.hid (show parsedV s = .tuple #[decV (bareP s), .nilIface] by unfold parsedV; rw [hq])
  rw [HV.out] at HR
  have hl := bareP_len s
  have HFL := Lib.hid (fun W => floor_any (bareP s) W (bareP_bare s) (by omega) (by omega))
  have HSG := Lib.hid (fun W => sign_any (bareP s) W)
  have hor := order_nought hn hf
  have hrs := signP_range (bareP s)
  have hfm := floorP_most (bareP s)
  have HAP := Lib.hid (show againP (bareP s) n = if signP (bareP s) < fsign n then -1 else if fsign n < signP (bareP s) then 1 else if signP (bareP s) = 0 then 0 else againC (signP (bareP s)) (floorP (bareP s)) (n % 9223372036854775808) from rfl)
  have han := andnot_top n hn
  have hmm : n % 9223372036854775808 < 9223372036854775808 := Nat.mod_lt _ (by decide)
  generalize againP (bareP s) n = ap at *
  generalize floorP (bareP s) = c at *
  generalize signP (bareP s) = sg at *
  generalize fsign n = fs at *
  generalize n % 9223372036854775808 = m at *
  generalize bareP s = d at *
  obtain ⟨c0, c1, c2⟩ := c
  obtain ⟨g, l, x⟩ := d
  unfold decV sv cutV at *
  simp only at HFL hfm
  have HAC := Lib.hid (show againC sg (c0, c1, c2) m = if m ≤ c0 ∧ ¬ (c0 = m ∧ c2 = true) then sg else if c0 < m then -sg else 0 from rfl)
  generalize againC sg (c0, c1, c2) m = ac at *
  have HAN := Lib.hid han
  have HRS := Lib.hid hrs
  have HFM := Lib.hid hfm
  have HMM := Lib.hid hmm
  clear h ho hg hn hf hs hq hl hrs hfm han hmm
  have tests : ∃ o, FloatKind.f64.format.order n 0 = some o ∧ ((o = .lt ∧ fs = -1) ∨ (o = .eq ∧ fs = 0) ∨ (o = .gt ∧ fs = 1)) := by
    rcases hor with ⟨h1, h2⟩ | ⟨h1, h2⟩ | ⟨h1, h2⟩
    · exact ⟨_, h2, .inl ⟨rfl, h1⟩⟩
    · exact ⟨_, h2, .inr (.inl ⟨rfl, h1⟩)⟩
    · exact ⟨_, h2, .inr (.inr ⟨rfl, h1⟩)⟩
  clear hor
  obtain ⟨o', ho, htt⟩ := tests
  have HTT := Lib.hid htt
  clear htt
  go_enter Tryz.func36, Tryz.ntmps36
  go_wp2_with fail
  refine (HN.out _).mono ?_
  rintro e w1 ⟨rfl, rfl⟩
  go_wp2_with fail
  refine (HI.out _).mono ?_
  rintro e w1 ⟨rfl, rfl⟩
  go_wp2_with fail
  refine (HR.out _).mono ?_
  rintro e w1 ⟨rfl, hb1⟩
  have HK1 := Lib.hid (Blk.new w1 102 #[.bool g, .string ⟨l.toArray⟩, .int .i64 x])
  have HB1 := Lib.hid (hb1.alloc hb1.size (.cells #[.bool g, .string ⟨l.toArray⟩, .int .i64 x] 102))
  clear hb1
  go_wp2_with fail
  refine (HSG.out _).mono ?_
  rintro e w2 ⟨rfl, hb2⟩
  have HK2 := Lib.hid (HK1.out.below hb2 HK1.out.lt)
  have HB2 := Lib.hid (keepb HB1.out hb2)
  obtain ⟨d0, d1, d2, f0, f1, f2⟩ := HK2.out.three
  clear hb2
  go_upto_region 8 with fail
  rcases HTT.out with ⟨rfl, rfl⟩ | ⟨rfl, rfl⟩ | ⟨rfl, rfl⟩
  · rcases HRS.out with rfl | rfl | rfl
    · have HV := Lib.hid (show ap = ac by rw [HAP.out]; rfl)
      have han := HAN.out
      have hfm := HFM.out
      have hmm := HMM.out
      unfold most at hfm
      have k1 : IntKind.i64.wrap (-(-1 : Int)) = -(-1) := by decide
      clear HAP HAN HFM HMM
      go_wp2_with fail
      refine (HFL.out _).mono ?_
      rintro e w3 ⟨rfl, hb3⟩
      have HJ3 := Lib.hid (Blk.new w3 107 #[.int .u64 (c0 : Int), .int .i64 c1, .bool c2])
      have HB3 := Lib.hid ((keepb HB2.out hb3).alloc (keepb HB2.out hb3).size (.cells #[.int .u64 (c0 : Int), .int .i64 c1, .bool c2] 107))
      obtain ⟨e0, e1, e2, g0, g1, g2⟩ := HJ3.out.three
      clear hb3 d0 d1 d2 f0 f1 f2
      rcases Nat.lt_trichotomy c0 m with hlt | rfl | hgt
      · have t1 : decide (m ≤ c0) = false := decide_eq_false (by omega)
        have t1' : decide ((m : Int) ≤ (c0 : Int)) = false := decide_eq_false (by omega)
        have t2 : decide (c0 < m) = true := decide_eq_true hlt
        have t2' : decide ((c0 : Int) < (m : Int)) = true := decide_eq_true (by omega)
        have HW := Lib.hid (show ap = -(-1) by rw [HV.out, HAC.out, if_neg (by omega), if_pos hlt])
        clear hlt hfm hmm HAC HV
        go_wp2_with fail
        go_ret2
        exact ⟨by rw [HW.out] <;> rfl, HB3.out⟩
      · have t1 : decide (c0 ≤ c0) = true := decide_eq_true (by omega)
        have t1' : decide ((c0 : Int) ≤ (c0 : Int)) = true := decide_eq_true (by omega)
        have t2 : decide (c0 < c0) = false := decide_eq_false (by omega)
        have t2' : decide ((c0 : Int) < (c0 : Int)) = false := decide_eq_false (by omega)
        have t3 : ((c0 : Int) == (c0 : Int)) = true := by simp
        have t4 : (c0 == c0) = true := by simp
        cases c2 with
        | true =>
          have HW := Lib.hid (show ap = 0 by rw [HV.out, HAC.out, if_neg (by simp), if_neg (by omega)])
          clear hfm hmm HAC HV
          go_wp2_with fail
          go_ret2
          exact ⟨by rw [HW.out] <;> rfl, HB3.out⟩
        | false =>
          have HW := Lib.hid (show ap = -1 by rw [HV.out, HAC.out, if_pos (by simp)])
          clear hfm hmm HAC HV
          go_wp2_with fail
          go_ret2
          exact ⟨by rw [HW.out] <;> rfl, HB3.out⟩
      · have t1 : decide (m ≤ c0) = true := decide_eq_true (by omega)
        have t1' : decide ((m : Int) ≤ (c0 : Int)) = true := decide_eq_true (by omega)
        have t3 : ((c0 : Int) == (m : Int)) = false := by simp; omega
        have t4 : (c0 == m) = false := by simp; omega
        have HW := Lib.hid (show ap = -1 by rw [HV.out, HAC.out, if_pos ⟨by omega, fun h => by omega⟩])
        clear hgt hfm hmm HAC HV
        go_wp2_with fail
        go_ret2
        exact ⟨by rw [HW.out] <;> rfl, HB3.out⟩
    · have HV := Lib.hid (show ap = 1 by rw [HAP.out]; rfl)
      clear HAP HAC HAN HFM HMM
      go_wp2_with fail
      go_ret2
      exact ⟨by rw [HV.out] <;> rfl, HB2.out⟩
    · have HV := Lib.hid (show ap = 1 by rw [HAP.out]; rfl)
      clear HAP HAC HAN HFM HMM
      go_wp2_with fail
      go_ret2
      exact ⟨by rw [HV.out] <;> rfl, HB2.out⟩
  · rcases HRS.out with rfl | rfl | rfl
    · have HV := Lib.hid (show ap = -1 by rw [HAP.out]; rfl)
      clear HAP HAC HAN HFM HMM
      go_wp2_with fail
      go_ret2
      exact ⟨by rw [HV.out] <;> rfl, HB2.out⟩
    · have HV := Lib.hid (show ap = 0 by rw [HAP.out]; rfl)
      clear HAP HAC HAN HFM HMM
      go_wp2_with fail
      go_ret2
      exact ⟨by rw [HV.out] <;> rfl, HB2.out⟩
    · have HV := Lib.hid (show ap = 1 by rw [HAP.out]; rfl)
      clear HAP HAC HAN HFM HMM
      go_wp2_with fail
      go_ret2
      exact ⟨by rw [HV.out] <;> rfl, HB2.out⟩
  · rcases HRS.out with rfl | rfl | rfl
    · have HV := Lib.hid (show ap = -1 by rw [HAP.out]; rfl)
      clear HAP HAC HAN HFM HMM
      go_wp2_with fail
      go_ret2
      exact ⟨by rw [HV.out] <;> rfl, HB2.out⟩
    · have HV := Lib.hid (show ap = -1 by rw [HAP.out]; rfl)
      clear HAP HAC HAN HFM HMM
      go_wp2_with fail
      go_ret2
      exact ⟨by rw [HV.out] <;> rfl, HB2.out⟩
    · have HV := Lib.hid (show ap = ac by rw [HAP.out]; rfl)
      have han := HAN.out
      have hfm := HFM.out
      have hmm := HMM.out
      unfold most at hfm
      have k1 : IntKind.i64.wrap (-(1 : Int)) = -(1) := by decide
      clear HAP HAN HFM HMM
      go_wp2_with fail
      refine (HFL.out _).mono ?_
      rintro e w3 ⟨rfl, hb3⟩
      have HJ3 := Lib.hid (Blk.new w3 107 #[.int .u64 (c0 : Int), .int .i64 c1, .bool c2])
      have HB3 := Lib.hid ((keepb HB2.out hb3).alloc (keepb HB2.out hb3).size (.cells #[.int .u64 (c0 : Int), .int .i64 c1, .bool c2] 107))
      obtain ⟨e0, e1, e2, g0, g1, g2⟩ := HJ3.out.three
      clear hb3 d0 d1 d2 f0 f1 f2
      rcases Nat.lt_trichotomy c0 m with hlt | rfl | hgt
      · have t1 : decide (m ≤ c0) = false := decide_eq_false (by omega)
        have t1' : decide ((m : Int) ≤ (c0 : Int)) = false := decide_eq_false (by omega)
        have t2 : decide (c0 < m) = true := decide_eq_true hlt
        have t2' : decide ((c0 : Int) < (m : Int)) = true := decide_eq_true (by omega)
        have HW := Lib.hid (show ap = -(1) by rw [HV.out, HAC.out, if_neg (by omega), if_pos hlt])
        clear hlt hfm hmm HAC HV
        go_wp2_with fail
        go_ret2
        exact ⟨by rw [HW.out] <;> rfl, HB3.out⟩
      · have t1 : decide (c0 ≤ c0) = true := decide_eq_true (by omega)
        have t1' : decide ((c0 : Int) ≤ (c0 : Int)) = true := decide_eq_true (by omega)
        have t2 : decide (c0 < c0) = false := decide_eq_false (by omega)
        have t2' : decide ((c0 : Int) < (c0 : Int)) = false := decide_eq_false (by omega)
        have t3 : ((c0 : Int) == (c0 : Int)) = true := by simp
        have t4 : (c0 == c0) = true := by simp
        cases c2 with
        | true =>
          have HW := Lib.hid (show ap = 0 by rw [HV.out, HAC.out, if_neg (by simp), if_neg (by omega)])
          clear hfm hmm HAC HV
          go_wp2_with fail
          go_ret2
          exact ⟨by rw [HW.out] <;> rfl, HB3.out⟩
        | false =>
          have HW := Lib.hid (show ap = 1 by rw [HV.out, HAC.out, if_pos (by simp)])
          clear hfm hmm HAC HV
          go_wp2_with fail
          go_ret2
          exact ⟨by rw [HW.out] <;> rfl, HB3.out⟩
      · have t1 : decide (m ≤ c0) = true := decide_eq_true (by omega)
        have t1' : decide ((m : Int) ≤ (c0 : Int)) = true := decide_eq_true (by omega)
        have t3 : ((c0 : Int) == (m : Int)) = false := by simp; omega
        have t4 : (c0 == m) = false := by simp; omega
        have HW := Lib.hid (show ap = 1 by rw [HV.out, HAC.out, if_pos ⟨by omega, fun h => by omega⟩])
        clear hgt hfm hmm HAC HV
        go_wp2_with fail
        go_ret2
        exact ⟨by rw [HW.out] <;> rfl, HB3.out⟩
end Go.Proofs.YtnajondbdeclmaaGreatDoor
