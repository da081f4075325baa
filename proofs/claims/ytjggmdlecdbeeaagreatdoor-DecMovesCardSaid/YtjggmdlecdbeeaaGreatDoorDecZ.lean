/- What Parts and Float answer; the reference's decimal of a decimal. What may and Print answer; the reference's May, whole, Print. The reference's May, whole, Print; the program's Print and Value. What Print and Value answer; the reference's Print. -/
import Derived.Test.YtjggmdlecdbeeaaGreatDoorDecW
import Derived.Test.YtjggmdlecdbeeaaGreatDoorRefG
import Derived.Test.YtjggmdlecdbeeaaGreatDoorBytes
import Derived.Test.YtjggmdlecdbeeaaGreatDoorTab
import Derived.Test.YtjggmdlecdbeeaaGreatDoorShelf
import Derived.Lib.AppendIntMem
import Derived.Lib.ItoaLen
import Derived.BigQuiet
namespace Go.Proofs.YtjggmdlecdbeeaaGreatDoor
open Go.RowKit
set_option linter.unusedSimpArgs false
set_option linter.unusedVariables false

theorem parts_wrong (s : List UInt8) (q : Nat) (w : World) (hs : s.length ≤ 140737488353000) (hw : wrongP s = some q) :
    Calls Tryz.prog 15 #[sv s] w fun e w' => e = .returned (.tuple #[decV (false, [], 0), spotV 40 (q : Nat)]) ∧ Below w.heap.size w w' := by
  have HR := Lib.hid (fun W => parsed_any s W hs)
  have HK0 := Lib.hid (Blk.new w 23 #[.bool false, .string ⟨#[]⟩, .int .i64 0])
  have HB0 := Lib.hid (below_new w (.cells #[.bool false, .string ⟨#[]⟩, .int .i64 0] 23))
  have HV := Lib.hid (show parsedV s = .tuple #[.agg #[.bool false, .string ⟨#[]⟩, .int .i64 0], spotV 40 (q : Nat)] by unfold parsedV; rw [hw]; rfl)
  rw [HV.out] at HR
  clear hw hs
  go_enter Tryz.func15, Tryz.ntmps15
  go_wp2_with fail
  refine (HR.out _).mono ?_
  rintro e w1 ⟨rfl, hb1⟩
  have HK1 := Lib.hid ((HK0.out.below hb1 HK0.out.lt).alloc (.cells #[.bool false, .string ⟨#[]⟩, .int .i64 0] 23))
  have HB1 := Lib.hid ((keepb HB0.out hb1).alloc (keepb HB0.out hb1).size (.cells #[.bool false, .string ⟨#[]⟩, .int .i64 0] 23))
  obtain ⟨c0, c1, c2, f0, f1, f2⟩ := HK1.out.three
  clear hb1
  go_wp2_with fail
  obtain ⟨e0, e1, e2⟩ := HK1.out.put3 (.bool false) (.string ⟨#[]⟩) (.int .i64 0)
  exact bodyPost_ret (v := .tuple #[.agg #[.bool false, .string ⟨#[]⟩, .int .i64 0], spotV 40 (q : Nat)]) (by simp [results, Tryz.results15, go_sem, e0, e1, e2]) rfl ⟨rfl, below_put3 HB1.out (Nat.le_refl _) _ _ _⟩
def partsV (d : Dm) : Value := if nearP d.2.2 then .tuple #[decV d, .nilIface] else .tuple #[decV (false, [], 0), enoV 3]
theorem parts_ok (s : List UInt8) (w : World) (hs : s.length ≤ 140737488353000) (hw : wrongP s = none) :
    Calls Tryz.prog 15 #[sv s] w fun e w' => e = .returned (partsV (bareP s)) ∧ Below w.heap.size w w' := by
  have HR := Lib.hid (fun W => parsed_any s W hs)
  have HK0 := Lib.hid (Blk.new w 23 #[.bool false, .string ⟨#[]⟩, .int .i64 0])
  have HB0 := Lib.hid (below_new w (.cells #[.bool false, .string ⟨#[]⟩, .int .i64 0] 23))
  have HV := Lib.hid (show parsedV s = .tuple #[decV (bareP s), .nilIface] by unfold parsedV; rw [hw])
  have HN := Lib.hid (fun W => near_any (bareP s).2.2 W)
  rw [HV.out] at HR
  have HP := Lib.hid (show partsV (bareP s) = if nearP (bareP s).2.2 then .tuple #[decV (bareP s), .nilIface] else .tuple #[decV (false, [], 0), enoV 3] from rfl)
  clear hw hs
  obtain ⟨R, hR⟩ : ∃ R, partsV (bareP s) = R := ⟨_, rfl⟩
  rw [hR] at HP ⊢
  clear HV hR
  generalize nearP (bareP s).2.2 = nr at *
  generalize bareP s = d at *
  obtain ⟨g, t, x⟩ := d
  unfold decV sv at *
  simp only at HN
  go_enter Tryz.func15, Tryz.ntmps15
  go_wp2_with fail
  refine (HR.out _).mono ?_
  rintro e w1 ⟨rfl, hb1⟩
  have HK1 := Lib.hid ((HK0.out.below hb1 HK0.out.lt).alloc (.cells #[.bool g, .string ⟨t.toArray⟩, .int .i64 x] 23))
  have HB1 := Lib.hid ((keepb HB0.out hb1).alloc (keepb HB0.out hb1).size (.cells #[.bool g, .string ⟨t.toArray⟩, .int .i64 x] 23))
  clear hb1
  go_wp2_with fail
  refine (HN.out _).mono ?_
  rintro e w2 ⟨rfl, rfl⟩
  obtain ⟨c0, c1, c2, f0, f1, f2⟩ := HK1.out.three
  cases nr with
  | true =>
    go_simp
    repeat go_step
    obtain ⟨e0, e1, e2⟩ := HK1.out.put3 (.bool g) (.string ⟨t.toArray⟩) (.int .i64 x)
    exact bodyPost_ret (v := .tuple #[.agg #[.bool g, .string ⟨t.toArray⟩, .int .i64 x], .nilIface]) (by simp [results, Tryz.results15, go_sem, e0, e1, e2]) rfl ⟨by rw [HP.out] <;> rfl, below_put3 HB1.out (Nat.le_refl _) _ _ _⟩
  | false =>
    go_simp
    repeat go_step
    obtain ⟨e0, e1, e2⟩ := HK1.out.put3 (.bool false) (.string ⟨#[]⟩) (.int .i64 0)
    exact bodyPost_ret (v := .tuple #[.agg #[.bool false, .string ⟨#[]⟩, .int .i64 0], enoV 3]) (by simp [results, Tryz.results15, go_sem, e0, e1, e2]) rfl ⟨by rw [HP.out] <;> rfl, below_put3 HB1.out (Nat.le_refl _) _ _ _⟩
theorem twin_any (d : Dm) (w : World) :
    Calls Tryz.prog 8 #[decV d] w fun e w' => e = .returned (decV d) ∧ Below w.heap.size w w' := by
  obtain ⟨g, l, x⟩ := d
  unfold decV sv
  go_enter Tryz.func8, Tryz.ntmps8
  go_wp2_with fail
  exact bodyPost_ret (v := .agg #[.bool g, .string ⟨l.toArray⟩, .int .i64 x]) (by simp [results, Tryz.results8, go_sem]) rfl ⟨rfl, by go_grown⟩
theorem dec_same (g : Bool) (s : ByteArray) (x : Int) (w : World) : (binOp .neq 33 (.agg #[.bool g, .string s, .int .i64 x]) (.agg #[.bool g, .string s, .int .i64 x])).run Tryz.prog w = .ok (.bool false) w := by
  go_simp
end Go.Proofs.YtjggmdlecdbeeaaGreatDoor

namespace Go.Proofs.YtjggmdlecdbeeaaGreatDoor
open Go.RowKit
attribute [local go_sem] SGives_value SGives_skip SGives_enter
set_option linter.unusedSimpArgs false
set_option linter.unusedVariables false

def mayP (d : Dm) : Bool := d.2.1.all isD && nearP d.2.2
/-- A decimal's literal. -/
def headP (d : Dm) : List UInt8 := if noughtsL d.2.1 = [] then [48] else noughtsL d.2.1
def signL (d : Dm) : List UInt8 := if d.1 then 45 :: headP d else headP d
def printP (d : Dm) : List UInt8 := if d.2.2 = 0 then signL d else signL d ++ (101 :: Lib.itoa d.2.2)

theorem all_take {l : List UInt8} {k : Nat} (h : k < l.length) : (l.take (k + 1)).all isD = ((l.take k).all isD && dAt l k) := by
  rw [List.take_succ_eq_append_getElem h, List.all_append, dAt_get h]
  simp
theorem all_not {l : List UInt8} {k : Nat} (h : k < l.length) (hd : dAt l k = false) : l.all isD = false := by
  rw [dAt_get h] at hd
  rw [List.all_eq_false]
  exact ⟨l[k], List.getElem_mem h, by simp [hd]⟩

set_option maxRecDepth 100000 in
theorem may_any (d : Dm) (w : World) (hl : d.2.1.length ≤ 140737488353000) :
    Calls Tryz.prog 22 #[decV d] w fun e w' => e = .returned (.bool (mayP d)) ∧ Below w.heap.size w w' := by
  obtain ⟨g, l, x⟩ := d
  simp only at hl
  have HMY := Lib.hid (show mayP (g, l, x) = (l.all isD && nearP x) from rfl)
  obtain ⟨R, hR⟩ : ∃ R, mayP (g, l, x) = R := ⟨_, rfl⟩
  rw [hR] at HMY ⊢
  have HK0 := Lib.hid (Blk.new w 23 #[.bool g, .string ⟨l.toArray⟩, .int .i64 x])
  have HB0 := Lib.hid (below_new w (.cells #[.bool g, .string ⟨l.toArray⟩, .int .i64 x] 23))
  have hlI : (l.length : Int) ≤ 140737488353000 := by omega
  clear hR hl
  unfold decV sv
  go_enter Tryz.func22, Tryz.ntmps22
  go_wp2_with fail
  obtain ⟨W, hW⟩ : ∃ W, w.alloc (.cells #[.bool g, .string ⟨l.toArray⟩, .int .i64 x] 23) = W := ⟨_, rfl⟩
  rw [hW] at HK0 HB0 ⊢
  clear hW
  obtain ⟨c0, c1, c2, f0, f1, f2⟩ := HK0.out.three
  go_loop [7] (fun s => ∃ k : Nat, s = .int .i64 k ∧ k ≤ l.length ∧ (l.take k).all isD = true) (fun s => l.length - (intOf s).toNat)
  case atStart => exact ⟨0, rfl, Nat.zero_le _, rfl⟩
  case round =>
    obtain ⟨k, rfl, hk, hall⟩ := hrel
    have HA := Lib.hid hall
    clear hall
    by_cases hlt : k < l.length
    · have hb := bget l k hlt
      have HDG := Lib.hid (fun W => digit_at l k hlt W)
      have HNX := Lib.hid (all_take hlt)
      have HNO := Lib.hid (fun h => all_not (l := l) (k := k) hlt h)
      have t1 : decide ((k : Int) < l.length) = true := decide_eq_true (by omega)
      have t1' : decide (k < l.length) = true := decide_eq_true hlt
      have hkI : (k : Int) < l.length := by omega
      have HLT := Lib.hid hlt
      clear hk
      generalize hv : dAt l k = v at *
      clear hv
      go_wp2_with fail
      refine (HDG.out _).mono ?_
      rintro e w1 ⟨rfl, rfl⟩
      cases v with
      | true =>
        go_wp2_with fail
        go_round
        case rel => exact ⟨k + 1, by go_num, HLT.out, by rw [HNX.out, HA.out]; rfl⟩
        case measure => have := HLT.out; simp [intOf]; omega
      | false =>
        have HV := Lib.hid (show R = false by rw [HMY.out, HNO.out rfl]; rfl)
        go_wp2_with fail
        go_ret
        exact ⟨by rw [HV.out] <;> rfl, HB0.out⟩
    · obtain rfl : k = l.length := by omega
      have t1 : decide ((l.length : Int) < l.length) = false := by simp
      have t1' : decide (l.length < l.length) = false := by simp
      have HV := Lib.hid (show R = nearP x by rw [HMY.out]; have := HA.out; rw [List.take_length] at this; rw [this]; rfl)
      have HN := Lib.hid (fun W => near_any x W)
      clear hlt hk
      go_wp2_with fail
      refine (HN.out _).mono ?_
      rintro e w1 ⟨rfl, rfl⟩
      go_wp2_with fail
      go_ret
      exact ⟨by rw [HV.out] <;> rfl, HB0.out⟩

theorem itoa_any (n : Int) (h0 : -9223372036854775808 ≤ n) (h1 : n ≤ 9223372036854775807) (w : World) (ht : Tab w) :
    Calls Tryz.prog 24 #[.int .i64 n] w fun e w' => e = .returned (.string ⟨(Lib.itoa n).toArray⟩) ∧ Below w.heap.size w w' :=
  (Tryz.strconv_Itoa n h0 h1 w ht.here).mono fun e w' ⟨he, k, os, hw⟩ => ⟨he, by subst hw; exact Lib.below_grow _ _ (Nat.le_refl _) _ _⟩
theorem itoa_len (n : Int) (h0 : -9223372036854775808 ≤ n) (h1 : n ≤ 9223372036854775807) : (Lib.itoa n).length ≤ 21 := by
  unfold Lib.itoa
  split
  · rw [List.length_cons, Lib.decDigits_length]
    have := Lib.nDigits_le20 n.natAbs (by omega)
    omega
  · rw [Lib.decDigits_length]
    have := Lib.nDigits_le20 n.toNat (by omega)
    omega
end Go.Proofs.YtjggmdlecdbeeaaGreatDoor

namespace Go.Proofs.YtjggmdlecdbeeaaGreatDoor
open Go.RowKit
attribute [local go_sem] SGives_value SGives_skip SGives_enter
set_option linter.unusedSimpArgs false
set_option linter.unusedVariables false

theorem ov_all {l : List UInt8} : (ov l 0 = l.length) ↔ l.all isD = true := by
  unfold ov
  rw [List.drop_zero, Nat.zero_add]
  constructor
  · intro h
    have h1 : l.takeWhile isD = l := (List.takeWhile_prefix isD).eq_of_length h
    rw [← h1]
    exact List.all_takeWhile
  · intro h
    have : ∀ m : List UInt8, m.all isD = true → m.takeWhile isD = m := by
      intro m
      induction m with
      | nil => intro _; rfl
      | cons a b ih =>
        intro hm
        rw [List.all_cons, Bool.and_eq_true] at hm
        rw [List.takeWhile_cons, if_pos hm.1, ih hm.2]
    rw [this l h]

set_option maxRecDepth 100000 in
set_option maxHeartbeats 1000000 in
theorem rmay_any (d : Dm) (w : World) (hl : d.2.1.length ≤ 140737488353000) :
    Calls Tryz.prog 7 #[decV d] w fun e w' => e = .returned (.bool (mayP d)) ∧ Below w.heap.size w w' := by
  obtain ⟨g, l, x⟩ := d
  simp only at hl
  have HOV := Lib.hid (fun W => rover_any l 0 W hl (Nat.zero_le _))
  have HNE := Lib.hid (fun W => rnear_any x W)
  have HMY := Lib.hid (show mayP (g, l, x) = (l.all isD && nearP x) from rfl)
  have hov : ov l 0 ≤ l.length := ov_le (Nat.zero_le _)
  have hall := ov_all (l := l)
  obtain ⟨R, hR⟩ : ∃ R, mayP (g, l, x) = R := ⟨_, rfl⟩
  rw [hR] at HMY ⊢
  have HK0 := Lib.hid (Blk.new w 33 #[.bool g, .string ⟨l.toArray⟩, .int .i64 x])
  have HB0 := Lib.hid (below_new w (.cells #[.bool g, .string ⟨l.toArray⟩, .int .i64 x] 33))
  have hlI : (l.length : Int) ≤ 140737488353000 := by omega
  have e0 : ((0 : Nat) : Int) = 0 := rfl
  rw [e0] at HOV
  have hor : ∃ b, l.all isD = b ∧ (((ov l 0 : Nat) : Int) == (l.length : Int)) = b ∧ ((ov l 0) == l.length) = b := by
    by_cases h : ov l 0 = l.length
    · exact ⟨true, hall.1 h, by rw [beq_iff_eq]; omega, by rw [beq_iff_eq]; exact h⟩
    · refine ⟨false, ?_, by rw [beq_eq_false_iff_ne]; omega, by rw [beq_eq_false_iff_ne]; exact h⟩
      cases hx : l.all isD with
      | true => exact absurd (hall.2 hx) h
      | false => rfl
  obtain ⟨b, hb, t1, t1'⟩ := hor
  rw [hb] at HMY
  clear hR hl hall hb e0 hov
  generalize nearP x = nr at *
  generalize ov l 0 = o at *
  unfold decV sv
  go_enter Tryz.func7, Tryz.ntmps7
  go_upto_region 1 with fail
  obtain ⟨W, hW⟩ : ∃ W, w.alloc (.cells #[.bool g, .string ⟨l.toArray⟩, .int .i64 x] 33) = W := ⟨_, rfl⟩
  rw [hW] at HK0 HB0 ⊢
  clear hW
  obtain ⟨S, SD⟩ : ∃ S : World → Prop, Go.RowKit.Hid (∀ w' : World, S w' ↔ (Blk w' w.heap.size 33 #[.bool g, .string ⟨l.toArray⟩, .int .i64 x] ∧ Below w.heap.size w w')) := ⟨_, Lib.hid (fun _ => Iff.rfl)⟩
  refine wp_region_sure (S := S) (by kernel_rfl) (by kernel_rfl) ((SD.out _).2 ⟨HK0.out.drew, HB0.out.drew⟩) ?_
  cases b with
  | true =>
    have HV := Lib.hid (show R = nr from HMY.out)
    repeat
      (first
        | (refine SureL.no (by rfl) ?_; simp only [Act.put, List.setIfInBounds_toArray, List.set_cons_zero, List.set_cons_succ])
        | (refine' SureL.yes (by rfl) (fun wS hS => ?_) ?_
           rotate_left
           · obtain ⟨hk1, hk3⟩ := (SD.out _).1 hS
             obtain ⟨c0, c1, c2, f0, f1, f2⟩ := hk1.three
             go_simp
             first
               | exact ⟨rfl, hS⟩
               | (with_reducible refine (HOV.out _).mono ?_; rintro e w' ⟨rfl, rfl⟩; exact ⟨rfl, hS⟩)
               | (with_reducible refine (HNE.out _).mono ?_; rintro e w' ⟨rfl, rfl⟩; exact ⟨rfl, hS⟩)
           simp only [Act.put, List.setIfInBounds_toArray, List.set_cons_zero, List.set_cons_succ]))
    refine SureL.nil ?_
    intro wE hE
    obtain ⟨hk1, hk3⟩ := (SD.out _).1 hE
    have HK3 := Lib.hid hk3
    clear hk1 hk3
    go_wp2_with fail
    go_ret
    exact ⟨by rw [HV.out] <;> rfl, HK3.out⟩
  | false =>
    have HV := Lib.hid (show R = false from HMY.out)
    repeat
      (first
        | (refine SureL.no (by rfl) ?_; simp only [Act.put, List.setIfInBounds_toArray, List.set_cons_zero, List.set_cons_succ])
        | (refine' SureL.yes (by rfl) (fun wS hS => ?_) ?_
           rotate_left
           · obtain ⟨hk1, hk3⟩ := (SD.out _).1 hS
             obtain ⟨c0, c1, c2, f0, f1, f2⟩ := hk1.three
             go_simp
             first
               | exact ⟨rfl, hS⟩
               | (with_reducible refine (HOV.out _).mono ?_; rintro e w' ⟨rfl, rfl⟩; exact ⟨rfl, hS⟩)
           simp only [Act.put, List.setIfInBounds_toArray, List.set_cons_zero, List.set_cons_succ]))
    refine SureL.nil ?_
    intro wE hE
    obtain ⟨hk1, hk3⟩ := (SD.out _).1 hE
    have HK3 := Lib.hid hk3
    clear hk1 hk3
    go_wp2_with fail
    go_ret
    exact ⟨by rw [HV.out] <;> rfl, HK3.out⟩

theorem conv_u8 (v : Nat) (hv : v < 256) (w : World) : (convert 3 5 (.int .i64 (v : Int))).run Tryz.prog w = .ok (.int .u8 (v : Int)) w := by
  have h : IntKind.u8.wrap (v : Int) = (v : Int) := by
    show (v : Int) % 256 = v
    omega
  go_simp
theorem byte_str (v : Nat) (hv : v < 256) (w : World) (c : Nat) : (convert 74 9 (.slice (some ⟨w.heap.size, 0, none⟩) 1 c)).run Tryz.prog (w.alloc (.cells #[.int .u8 (v : Int)] 5)) = .ok (.string ⟨#[UInt8.ofNat v]⟩) (w.alloc (.cells #[.int .u8 (v : Int)] 5)) := by
  have hb : (UInt8.ofNat v).toNat = v := by simp; omega
  have h : RV (w.alloc (.cells #[.int .u8 (v : Int)] 5)) (w.heap.size + 1) (some ⟨w.heap.size, 0, none⟩) 1 ([UInt8.ofNat v].map bv) := by
    have := RV.fresh w 5 ([UInt8.ofNat v].map bv)
    simp only [List.map_cons, List.map_nil, bv, hb] at this ⊢
    exact this
  exact str_of_RB h.rb c

set_option maxRecDepth 100000 in
theorem rwhole_nat (n : Nat) (w : World) (hn : n ≤ 1000000000000000000) :
    Calls Tryz.prog 30 #[.int .i64 n] w fun e w' => e = .returned (sv (Lib.decDigits n)) ∧ Below w.heap.size w w' := by
  have HN := Lib.hid hn
  have HN20 := Lib.hid (Lib.nDigits_le20 n (by omega))
  have t0 : decide ((n : Int) < 0) = false := decide_eq_false (by omega)
  have hnI : (n : Int) ≤ 1000000000000000000 := by omega
  unfold sv
  clear hn
  go_enter Tryz.func30, Tryz.ntmps30
  go_wp2_with fail
  go_loopw [0, 3] (fun s0 s3 wr => ∃ (m : Nat) (t : List UInt8), s0 = .int .i64 m ∧ s3 = .string ⟨t.toArray⟩ ∧ m ≤ n ∧ Lib.decDigits n = Lib.decDigits m ++ t ∧ Below w.heap.size w wr) (fun s _ _ => (intOf s).toNat)
  case atStart => exact ⟨n, [], rfl, rfl, Nat.le_refl _, by simp, Below.refl _ _⟩
  case round =>
    obtain ⟨m, t, rfl, rfl, hm, hd, hb⟩ := hrel
    have HM := Lib.hid hm
    have HD := Lib.hid hd
    have HB := Lib.hid hb
    have hmI : (m : Int) ≤ 1000000000000000000 := by omega
    have htl : t.length ≤ 20 := by
      have := congrArg List.length hd
      rw [List.length_append, Lib.decDigits_length] at this
      have := HN20.out
      omega
    have htI : (t.length : Int) ≤ 20 := by omega
    clear hd hb
    by_cases h9 : 9 < m
    · obtain ⟨r, hr⟩ : ∃ r, m % 10 = r := ⟨_, rfl⟩
      obtain ⟨q, hq⟩ : ∃ q, m / 10 = q := ⟨_, rfl⟩
      obtain ⟨v, hv⟩ : ∃ v, 48 + r = v := ⟨_, rfl⟩
      have t1 : decide ((9 : Int) < (m : Int)) = true := decide_eq_true (by omega)
      have t1' : decide (9 < m) = true := decide_eq_true h9
      have e1 : (m : Int) % 10 = (r : Int) := by omega
      have e1' : Int.tmod (m : Int) 10 = (r : Int) := by rw [Int.tmod_eq_emod_of_nonneg (by omega)]; omega
      have e2 : (48 : Int) + (r : Int) = (v : Int) := by omega
      have e2' : IntKind.i64.wrap ((48 : Int) + (r : Int)) = (v : Int) := by rw [e2]; exact IntWalk.i64_in _ (by omega)
      have e3 : (m : Int) / 10 = (q : Int) := by omega
      have e3' : Int.tdiv (m : Int) 10 = (q : Int) := by rw [Int.tdiv_eq_ediv_of_nonneg (by omega)]; omega
      have hcv := conv_u8 v (by omega)
      have hcs := byte_str v (by omega)
      have hcat := sv_cat [UInt8.ofNat v] t
      have HQ := Lib.hid (show q < m ∧ q ≤ n by omega)
      have HDD : Hid (Lib.decDigits m = Lib.decDigits q ++ [UInt8.ofNat v]) := Lib.hid (by
        rw [Lib.decDigits, dif_neg (by omega), hq, hr, hv])
      clear hr hq hv h9 hm htl
      go_wp2_with fail
      go_roundw
      case rel => exact ⟨q, UInt8.ofNat v :: t, rfl, congrArg Value.string hcat, HQ.out.2, (by rw [HD.out, HDD.out, List.append_assoc]; rfl), HB.out.alloc HB.out.size _⟩
      case measure => have := HQ.out; simp [intOf]; omega
    · obtain ⟨v, hv⟩ : ∃ v, 48 + m = v := ⟨_, rfl⟩
      have t1 : decide ((9 : Int) < (m : Int)) = false := decide_eq_false (by omega)
      have t1' : decide (9 < m) = false := decide_eq_false h9
      have e2 : (48 : Int) + (m : Int) = (v : Int) := by omega
      have e2' : IntKind.i64.wrap ((48 : Int) + (m : Int)) = (v : Int) := by rw [e2]; exact IntWalk.i64_in _ (by omega)
      have hcv := conv_u8 v (by omega)
      have hcs := byte_str v (by omega)
      have hcat := sv_cat [UInt8.ofNat v] t
      have HDD : Hid (Lib.decDigits n = [UInt8.ofNat v] ++ t) := Lib.hid (by
        rw [HD.out, Lib.decDigits_one (by omega), hv])
      clear hv h9 hm htl
      go_wp2_with fail
      go_ret
      exact ⟨by rw [HDD.out] <;> rfl, HB.out.alloc HB.out.size _⟩

theorem rwhole_any (n : Int) (w : World) (h1 : -1000000000000000000 ≤ n) (h2 : n ≤ 1000000000000000000) :
    Calls Tryz.prog 30 #[.int .i64 n] w fun e w' => e = .returned (sv (Lib.itoa n)) ∧ Below w.heap.size w w' := by
  by_cases h : n < 0
  · obtain ⟨m, hm⟩ : ∃ m : Nat, n = -(m : Int) := ⟨n.natAbs, by omega⟩
    have HW := Lib.hid (fun W => rwhole_nat m W (by omega))
    have hv : Lib.itoa n = 45 :: Lib.decDigits m := by unfold Lib.itoa; rw [if_pos h, hm, Int.natAbs_neg]; rfl
    have HV := Lib.hid hv
    have hl := Lib.nDigits_le20 m (by omega)
    rw [← Lib.decDigits_length] at hl
    subst hm
    have t0 : decide (-(m : Int) < 0) = true := decide_eq_true h
    have t0' : decide ((0 : Int) < (m : Int)) = true := decide_eq_true (by omega)
    have t0'' : decide (0 < m) = true := decide_eq_true (by omega)
    have e1 : -(-(m : Int)) = (m : Int) := by omega
    have e1' : IntKind.i64.wrap (-(-(m : Int))) = (m : Int) := by rw [e1]; exact IntWalk.i64_in _ (by omega)
    have hmI : (m : Int) ≤ 1000000000000000000 := by omega
    obtain ⟨R, hR⟩ : ∃ R, Lib.itoa (-(m : Int)) = R := ⟨_, rfl⟩
    rw [hR] at HV ⊢
    clear hv h h1 h2 hR
    generalize Lib.decDigits m = t at *
    have hcat := sv_cat [45] t
    have htI : (t.length : Int) ≤ 20 := by omega
    unfold sv at *
    go_enter Tryz.func30, Tryz.ntmps30
    go_wp2_with fail
    refine (HW.out _).mono ?_
    rintro e w1 ⟨rfl, hb⟩
    go_wp2_with fail
    go_ret
    exact ⟨by rw [HV.out] <;> rfl, hb⟩
  · obtain ⟨m, rfl⟩ : ∃ m : Nat, n = m := ⟨n.toNat, by omega⟩
    have hv : Lib.itoa (m : Int) = Lib.decDigits m := by unfold Lib.itoa; rw [if_neg h, Int.toNat_natCast]
    rw [hv]
    exact rwhole_nat m w (by omega)
end Go.Proofs.YtjggmdlecdbeeaaGreatDoor

namespace Go.Proofs.YtjggmdlecdbeeaaGreatDoor
open Go.RowKit
set_option linter.unusedSimpArgs false
set_option linter.unusedVariables false

theorem headP_len (d : Dm) : (headP d).length ≤ d.2.1.length + 1 := by
  unfold headP
  have := noughtsL_le d.2.1
  split
  · simp
  · omega
theorem signL_len (d : Dm) : (signL d).length ≤ d.2.1.length + 2 := by
  have := headP_len d
  unfold signL
  split
  · simp; omega
  · omega
theorem nearP_iff {x : Int} (h : nearP x = true) : -1099511627776 ≤ x ∧ x ≤ 1099511627776 := of_decide_eq_true h
theorem mayP_near {d : Dm} (h : mayP d = true) : -1099511627776 ≤ d.2.2 ∧ d.2.2 ≤ 1099511627776 := by
  unfold mayP at h
  rw [Bool.and_eq_true] at h
  exact nearP_iff h.2
theorem mayP_digits {d : Dm} (h : mayP d = true) : ∀ c ∈ d.2.1, isD c = true := by
  unfold mayP at h
  rw [Bool.and_eq_true] at h
  simpa using h.1

set_option maxRecDepth 100000 in
set_option maxHeartbeats 1000000 in
theorem print_ok (d : Dm) (w : World) (hl : d.2.1.length ≤ 140737488353000) (hm : mayP d = true) (ht : Tab w) :
    Calls Tryz.prog 5 #[decV d] w fun e w' => e = .returned (.tuple #[sv (printP d), .nilIface]) ∧ Below w.heap.size w w' := by
  have hnr := mayP_near hm
  have h48 : (48 : UInt8).toNat < 128 := by decide
  have HMA := Lib.hid (fun W => may_any d W hl)
  rw [hm] at HMA
  have hsl := signL_len d
  have hhl := headP_len d
  obtain ⟨g, l, x⟩ := d
  simp only at hl hnr hsl hhl
  have hil := itoa_len x (by omega) (by omega)
  have HIT := Lib.hid (fun W (h : Tab W) => itoa_any x (by omega) (by omega) W h)
  have HT := Lib.hid ht
  have HL := Lib.hid (fun W => Tryz.strings_TrimLeft_one ⟨l.toArray⟩ 48 h48 W)
  simp only [trimL_eq, List.toList_toArray] at HL
  have HHD := Lib.hid (show headP (g, l, x) = if noughtsL l = [] then [48] else noughtsL l from rfl)
  have HSG := Lib.hid (show signL (g, l, x) = if g then 45 :: headP (g, l, x) else headP (g, l, x) from rfl)
  have HPR := Lib.hid (show printP (g, l, x) = if x = 0 then signL (g, l, x) else signL (g, l, x) ++ (101 :: Lib.itoa x) from rfl)
  generalize printP (g, l, x) = P at *
  generalize signL (g, l, x) = S at *
  generalize headP (g, l, x) = H at *
  have ke : (noughtsL l).isEmpty = decide (noughtsL l = []) := by cases noughtsL l <;> rfl
  generalize noughtsL l = t at *
  generalize Lib.itoa x = I at *
  have HK0 := Lib.hid (Blk.new w 23 #[.bool g, .string ⟨l.toArray⟩, .int .i64 x])
  have HB0 := Lib.hid (below_new w (.cells #[.bool g, .string ⟨l.toArray⟩, .int .i64 x] 23))
  have hSI : (S.length : Int) ≤ 140737488353002 := by omega
  have hHI : (H.length : Int) ≤ 140737488353001 := by omega
  have hII : (I.length : Int) ≤ 21 := by omega
  clear ht hm hnr h48 hsl hhl hl hil
  unfold decV sv at *
  go_enter Tryz.func5, Tryz.ntmps5
  go_wp2_with fail
  refine (HMA.out _).mono ?_
  rintro e w1 ⟨rfl, hb⟩
  have HK1 := Lib.hid (HK0.out.below hb HK0.out.lt)
  have HB1 := Lib.hid (keepb HB0.out hb)
  obtain ⟨c0, c1, c2, f0, f1, f2⟩ := HK1.out.three
  clear hb
  go_wp2_with fail
  refine (HL.out _).mono ?_
  rintro e w2 ⟨rfl, rfl⟩
  clear c0 c1 c2 f0 f1 f2
  obtain ⟨te, hte⟩ : ∃ te, decide (t = []) = te := ⟨_, rfl⟩
  rw [hte] at ke
  have HTE := Lib.hid hte
  clear hte
  go_upto_if 13 with fail
  clear ke
  go_cut [4] from 4 to 14 (fun s4 wx => s4 = .string ⟨H.toArray⟩ ∧ w2 = wx)
  case first =>
    cases te with
    | true =>
      have HV := Lib.hid (show H = [48] by rw [HHD.out, if_pos (of_decide_eq_true HTE.out)])
      go_wp2_with fail
      go_meet
      exact ⟨by rw [HV.out], rfl⟩
    | false =>
      have HV := Lib.hid (show H = t by rw [HHD.out, if_neg (of_decide_eq_false HTE.out)])
      go_wp2_with fail
      go_meet
      exact ⟨by rw [HV.out], rfl⟩
  case rest =>
  obtain ⟨rfl, hwx⟩ := hcut
  subst hwx
  obtain ⟨c0, c1, c2, f0, f1, f2⟩ := HK1.out.three
  have hcat := sv_cat [45] H
  go_upto_if 15 with fail
  go_cut [4] from 4 to 18 (fun s4 wx => s4 = .string ⟨S.toArray⟩ ∧ w2 = wx)
  case first =>
    cases g with
    | true =>
      have HV := Lib.hid (show S = [45] ++ H from HSG.out)
      go_wp2_with fail
      go_meet
      exact ⟨by rw [HV.out] <;> rfl, rfl⟩
    | false =>
      have HV := Lib.hid (show S = H from HSG.out)
      go_wp2_with fail
      go_meet
      exact ⟨by rw [HV.out], rfl⟩
  case rest =>
  obtain ⟨rfl, hwx⟩ := hcut
  subst hwx
  clear hcat
  by_cases hx0 : x = 0
  · subst hx0
    have HV := Lib.hid (show P = S by rw [HPR.out, if_pos rfl])
    go_wp2_with fail
    go_ret2
    exact ⟨by rw [HV.out] <;> rfl, HB1.out⟩
  · have HV := Lib.hid (show P = S ++ ([101] ++ I) by rw [HPR.out, if_neg hx0]; rfl)
    have t1 : (x != 0) = true := by simpa using hx0
    have t2 : (x == 0) = false := by simpa using hx0
    have hc1 := sv_cat [101] I
    have hc2 := sv_cat S ([101] ++ I)
    have HI := Lib.hid (HIT.out _ (HT.out.below HB1.out))
    have hCI : ((([101] ++ I : List UInt8)).length : Int) ≤ 22 := by simp; omega
    clear hx0
    generalize hC : ([101] ++ I : List UInt8) = C at *
    clear hC
    go_wp2_with fail
    refine HI.out.mono ?_
    rintro e w3 ⟨rfl, hb⟩
    have HB3 := Lib.hid (keepb HB1.out hb)
    clear hb c0 c1 c2 f0 f1 f2
    go_wp2_with fail
    go_ret2
    exact ⟨by rw [HV.out] <;> rfl, HB3.out⟩

theorem print_bad (d : Dm) (w : World) (hl : d.2.1.length ≤ 140737488353000) (hm : mayP d = false) :
    Calls Tryz.prog 5 #[decV d] w fun e w' => e = .returned (.tuple #[sv [], enoV 2]) ∧ Below w.heap.size w w' := by
  have HMA := Lib.hid (fun W => may_any d W hl)
  rw [hm] at HMA
  obtain ⟨g, l, x⟩ := d
  have HB0 := Lib.hid (below_new w (.cells #[.bool g, .string ⟨l.toArray⟩, .int .i64 x] 23))
  clear hm hl
  unfold decV sv at *
  go_enter Tryz.func5, Tryz.ntmps5
  go_wp2_with fail
  refine (HMA.out _).mono ?_
  rintro e w1 ⟨rfl, hb⟩
  have HB1 := Lib.hid (keepb HB0.out hb)
  clear hb
  go_wp2_with fail
  go_ret2
  exact ⟨rfl, HB1.out⟩

theorem value_bad (d : Dm) (way : Int) (w : World) (hl : d.2.1.length ≤ 140737488353000) (hm : mayP d = false ∨ decide (1 ≤ way ∧ way ≤ 5) = false) :
    Calls Tryz.prog 6 #[decV d, .int .i64 way] w fun e w' => e = .returned (.tuple #[.int .u64 0, enoV 2]) ∧ Below w.heap.size w w' := by
  have HMA := Lib.hid (fun W => may_any d W hl)
  have HIS := Lib.hid (fun W => is_any way W)
  have hor : mayP d = false ∨ (mayP d = true ∧ decide (1 ≤ way ∧ way ≤ 5) = false) := by
    cases h : mayP d with
    | false => exact .inl rfl
    | true => rcases hm with h1 | h1
              · rw [h] at h1; cases h1
              · exact .inr ⟨rfl, h1⟩
  obtain ⟨g, l, x⟩ := d
  have HB0 := Lib.hid (below_new w (.cells #[.bool g, .string ⟨l.toArray⟩, .int .i64 x] 23))
  clear hm hl
  unfold decV sv at *
  rcases hor with h | ⟨h, h2⟩
  · rw [h] at HMA
    clear h HIS
    go_enter Tryz.func6, Tryz.ntmps6
    go_wp2_with fail
    refine (HMA.out _).mono ?_
    rintro e w1 ⟨rfl, hb⟩
    have HB1 := Lib.hid (keepb HB0.out hb)
    clear hb
    go_wp2_with fail
    go_ret2
    exact ⟨rfl, HB1.out⟩
  · rw [h] at HMA
    rw [h2] at HIS
    clear h h2
    go_enter Tryz.func6, Tryz.ntmps6
    go_wp2_with fail
    refine (HMA.out _).mono ?_
    rintro e w1 ⟨rfl, hb⟩
    have HB1 := Lib.hid (keepb HB0.out hb)
    clear hb
    go_wp2_with fail
    refine (HIS.out _).mono ?_
    rintro e w2 ⟨rfl, rfl⟩
    go_wp2_with fail
    go_ret2
    exact ⟨rfl, HB1.out⟩

theorem value_ok (d : Dm) (way : Int) (w : World) (hl : d.2.1.length ≤ 140737488353000) (hm : mayP d = true) (hw : 1 ≤ way ∧ way ≤ 5) :
    Calls Tryz.prog 6 #[decV d, .int .i64 way] w fun e w' => e = .returned (roundV (roundP (stripD d) way)) ∧ Below w.heap.size w w' := by
  have HMA := Lib.hid (fun W => may_any d W hl)
  have HIS := Lib.hid (fun W => is_any way W)
  have hnr := mayP_near hm
  have hbs := stripD_bare d (mayP_digits hm)
  have hsl := stripD_len d 1099511627776 (by omega) hnr.1 hnr.2
  have HRO := Lib.hid (fun W => rounded_any (stripD d) way W hbs (by omega) (by omega) hw)
  rw [hm] at HMA
  rw [decide_eq_true hw] at HIS
  obtain ⟨a, er, hae⟩ : ∃ a er, roundV (roundP (stripD d) way) = .tuple #[a, er] := by cases roundP (stripD d) way <;> exact ⟨_, _, rfl⟩
  rw [hae] at HRO ⊢
  obtain ⟨g, l, x⟩ := d
  simp only at hl hnr hsl
  have HST := Lib.hid (fun W => stripped_any g l x W (by omega) (by omega))
  have HK0 := Lib.hid (Blk.new w 23 #[.bool g, .string ⟨l.toArray⟩, .int .i64 x])
  have HB0 := Lib.hid (below_new w (.cells #[.bool g, .string ⟨l.toArray⟩, .int .i64 x] 23))
  clear hm hl hnr hbs hsl hae hw
  generalize stripD (g, l, x) = d at *
  unfold decV sv at *
  go_enter Tryz.func6, Tryz.ntmps6
  go_wp2_with fail
  refine (HMA.out _).mono ?_
  rintro e w1 ⟨rfl, hb⟩
  have HB1 := Lib.hid (keepb HB0.out hb)
  have HK1 := Lib.hid (HK0.out.below hb HK0.out.lt)
  clear hb
  go_wp2_with fail
  refine (HIS.out _).mono ?_
  rintro e w2 ⟨rfl, rfl⟩
  obtain ⟨c0, c1, c2, f0, f1, f2⟩ := HK1.out.three
  go_wp2_with fail
  refine (HST.out _).mono ?_
  rintro e w2 ⟨rfl, hb⟩
  have HB2 := Lib.hid (keepb HB1.out hb)
  clear hb c0 c1 c2 f0 f1 f2
  go_wp2_with fail
  refine (HRO.out _).mono ?_
  rintro e w3 ⟨rfl, hb⟩
  have HB3 := Lib.hid (keepb HB2.out hb)
  clear hb
  go_wp2_with fail
  go_ret2
  exact ⟨rfl, HB3.out⟩

set_option maxRecDepth 100000 in
set_option maxHeartbeats 1000000 in
theorem rprint_any (d : Dm) (w : World) (hl : d.2.1.length ≤ 140737488353000) (hm : mayP d = true) :
    Calls Tryz.prog 9 #[decV d] w fun e w' => e = .returned (sv (printP d)) ∧ Below w.heap.size w w' := by
  have hnr := mayP_near hm
  have hsl := signL_len d
  have hhl := headP_len d
  obtain ⟨g, l, x⟩ := d
  simp only at hl hnr hsl hhl
  have hil := itoa_len x (by omega) (by omega)
  have HIT := Lib.hid (fun W => rwhole_any x W (by omega) (by omega))
  have HHD := Lib.hid (show headP (g, l, x) = if noughtsL l = [] then [48] else noughtsL l from rfl)
  have HSG := Lib.hid (show signL (g, l, x) = if g then 45 :: headP (g, l, x) else headP (g, l, x) from rfl)
  have HPR := Lib.hid (show printP (g, l, x) = if x = 0 then signL (g, l, x) else signL (g, l, x) ++ (101 :: Lib.itoa x) from rfl)
  generalize printP (g, l, x) = P at *
  generalize signL (g, l, x) = S at *
  generalize headP (g, l, x) = H at *
  generalize Lib.itoa x = I at *
  have HK0 := Lib.hid (Blk.new w 33 #[.bool g, .string ⟨l.toArray⟩, .int .i64 x])
  have HB0 := Lib.hid (below_new w (.cells #[.bool g, .string ⟨l.toArray⟩, .int .i64 x] 33))
  have hSI : (S.length : Int) ≤ 140737488353002 := by omega
  have hHI : (H.length : Int) ≤ 140737488353001 := by omega
  have hII : (I.length : Int) ≤ 21 := by omega
  have HLL := Lib.hid hl
  clear hm hnr hsl hhl hl hil
  unfold decV sv at *
  go_enter Tryz.func9, Tryz.ntmps9
  go_upto_block 0 with fail
  obtain ⟨W, hW⟩ : ∃ W, w.alloc (.cells #[.bool g, .string ⟨l.toArray⟩, .int .i64 x] 33) = W := ⟨_, rfl⟩
  rw [hW] at HK0 HB0 ⊢
  clear hW
  go_cut [3] from 3 to 16 (fun s3 wx => s3 = .string ⟨(noughtsL l).toArray⟩ ∧ W = wx)
  case first =>
    go_wp2_with fail
    go_loopg [3, 6, 7, 8, 9, 10, 11, 12, 13, 14, 15] l.length (fun n s3 s6 s7 s8 s9 s10 s11 s12 s13 s14 s15 wr => ∃ m : List UInt8, s3 = .string ⟨m.toArray⟩ ∧ noughtsL m = noughtsL l ∧ m.length = n ∧ n ≤ l.length ∧ W = wr)
    case atStart => exact ⟨l, rfl, rfl, rfl, Nat.le_refl _, rfl⟩
    case round =>
      obtain ⟨m, rfl, hm, rfl, hml, hwr⟩ := hrel
      subst hwr
      have HM := Lib.hid hm
      have hmI : ((m.length : Nat) : Int) ≤ 140737488353000 := by have := HLL.out; omega
      have HML := Lib.hid hml
      clear hm hml
      cases m with
      | nil =>
        have HE := Lib.hid (show noughtsL l = [] from HM.out.symm)
        go_wp2_with fail
        go_meet
        exact ⟨by rw [HE.out], rfl⟩
      | cons c r =>
        have h0 : 0 < (c :: r).length := by simp
        have hb0 := bget (c :: r) 0 h0
        have ht : (((bt (c :: r) 0 : Nat) : Int) == 48) = (some c == some 48) := bt_is h0 48
        have hI : (0 : Int) < (((c :: r).length : Nat) : Int) := by omega
        have hI1 : (1 : Int) ≤ (((c :: r).length : Nat) : Int) := by omega
        have u1 : decide ((0 : Int) < (((c :: r).length : Nat) : Int)) = true := decide_eq_true hI
        have u2 : decide (0 < (c :: r).length) = true := decide_eq_true h0
        have hext : (⟨(c :: r).toArray⟩ : ByteArray).extract 1 (c :: r).length = ⟨r.toArray⟩ := by
          rw [ext_cut]; unfold cutL; rw [List.drop_one, List.tail_cons, List.take_of_length_le (by simp)]
        have hcons := noughtsL_cons c r
        have HLEN := Lib.hid (show (c :: r).length = r.length + 1 from rfl)
        generalize hmm : c :: r = m at *
        cases hc : (some c == some (48 : UInt8)) with
        | true =>
          rw [hc] at ht hcons
          have HR := Lib.hid (show noughtsL r = noughtsL l by rw [← HM.out, hcons]; rfl)
          clear hc hcons hmm
          go_wp2_with fail
          go_roundg r.length
          case rel => exact ⟨r, rfl, HR.out, rfl, by have := HML.out; have := HLEN.out; omega, rfl⟩
          case measure => have := HLEN.out; omega
        | false =>
          rw [hc] at ht hcons
          have HE := Lib.hid (show noughtsL l = m by rw [← HM.out, hcons]; rfl)
          clear hc hcons hmm
          go_wp2_with fail
          go_meet
          exact ⟨by rw [HE.out], rfl⟩
  case rest =>
  obtain ⟨rfl, hwx⟩ := hcut
  subst hwx
  have hor : ∃ te, decide (noughtsL l = []) = te ∧ (((noughtsL l).length : Int) == 0) = te ∧ ((noughtsL l).length == 0) = te := by
    cases noughtsL l with
    | nil => exact ⟨true, rfl, rfl, rfl⟩
    | cons a b => exact ⟨false, rfl, by rw [beq_eq_false_iff_ne]; simp; omega, rfl⟩
  generalize noughtsL l = t at *
  obtain ⟨te, hte, q1, q2⟩ := hor
  have HTE := Lib.hid hte
  clear hte
  go_upto_if 18 with fail
  clear q1 q2
  go_cut [3] from 3 to 19 (fun s3 wx => s3 = .string ⟨H.toArray⟩ ∧ W = wx)
  case first =>
    cases te with
    | true =>
      have HV := Lib.hid (show H = [48] by rw [HHD.out, if_pos (of_decide_eq_true HTE.out)])
      go_wp2_with fail
      go_meet
      exact ⟨by rw [HV.out], rfl⟩
    | false =>
      have HV := Lib.hid (show H = t by rw [HHD.out, if_neg (of_decide_eq_false HTE.out)])
      go_wp2_with fail
      go_meet
      exact ⟨by rw [HV.out], rfl⟩
  case rest =>
  obtain ⟨rfl, hwx⟩ := hcut
  subst hwx
  obtain ⟨c0, c1, c2, f0, f1, f2⟩ := HK0.out.three
  have hcat := sv_cat [45] H
  go_upto_if 20 with fail
  go_cut [3] from 3 to 23 (fun s3 wx => s3 = .string ⟨S.toArray⟩ ∧ W = wx)
  case first =>
    cases g with
    | true =>
      have HV := Lib.hid (show S = [45] ++ H from HSG.out)
      go_wp2_with fail
      go_meet
      exact ⟨by rw [HV.out] <;> rfl, rfl⟩
    | false =>
      have HV := Lib.hid (show S = H from HSG.out)
      go_wp2_with fail
      go_meet
      exact ⟨by rw [HV.out], rfl⟩
  case rest =>
  obtain ⟨rfl, hwx⟩ := hcut
  subst hwx
  clear hcat
  by_cases hx0 : x = 0
  · subst hx0
    have HV := Lib.hid (show P = S by rw [HPR.out, if_pos rfl])
    go_wp2_with fail
    go_ret
    exact ⟨by rw [HV.out] <;> rfl, HB0.out⟩
  · have HV := Lib.hid (show P = (S ++ [101]) ++ I by rw [HPR.out, if_neg hx0, List.append_assoc]; rfl)
    have t1 : (x != 0) = true := by simpa using hx0
    have t2 : (x == 0) = false := by simpa using hx0
    have hc1 := sv_cat S [101]
    have hc2 := sv_cat (S ++ [101]) I
    have hCI : (((S ++ [101] : List UInt8)).length : Int) ≤ 140737488353003 := by simp; omega
    clear hx0
    generalize hC : (S ++ [101] : List UInt8) = C at *
    clear hC
    go_wp2_with fail
    refine (HIT.out _).mono ?_
    rintro e w3 ⟨rfl, hb⟩
    have HB3 := Lib.hid (keepb HB0.out hb)
    clear hb c0 c1 c2 f0 f1 f2
    go_wp2_with fail
    go_ret
    exact ⟨by rw [HV.out] <;> rfl, HB3.out⟩
end Go.Proofs.YtjggmdlecdbeeaaGreatDoor
