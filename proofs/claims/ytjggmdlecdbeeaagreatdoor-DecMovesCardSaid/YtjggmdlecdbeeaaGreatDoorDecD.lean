/- The walks of dec.parsed, Check, near, sign. The walks of dec.Check, near, sign, magnitudes. The walk of dec.Compare. -/
import Derived.Test.YtjggmdlecdbeeaaGreatDoorDecB
import Derived.Test.YtjggmdlecdbeeaaGreatDoorDecQ
namespace Go.Proofs.YtjggmdlecdbeeaaGreatDoor
open Go.RowKit
set_option linter.unusedSimpArgs false
set_option linter.unusedVariables false

theorem Blk.three {w : World} {b : Nat} {t : TypeId} {x y z : Value} (h : Blk w b t #[x, y, z]) :
    w.cell? ⟨b, 0, none⟩ = some x ∧ w.cell? ⟨b, 1, none⟩ = some y ∧ w.cell? ⟨b, 2, none⟩ = some z ∧ w.frozen? ⟨b, 0, none⟩ = false ∧ w.frozen? ⟨b, 1, none⟩ = false ∧ w.frozen? ⟨b, 2, none⟩ = false :=
  ⟨h.cell 0, h.cell 1, h.cell 2, h.frozen 0, h.frozen 1, h.frozen 2⟩
theorem Blk.put3 {w : World} {b : Nat} {t : TypeId} {x y z : Value} (h : Blk w b t #[x, y, z]) (u v r : Value) :
    (((w.setCell ⟨b, 0, none⟩ u).setCell ⟨b, 1, none⟩ v).setCell ⟨b, 2, none⟩ r).cell? ⟨b, 0, none⟩ = some u ∧
    (((w.setCell ⟨b, 0, none⟩ u).setCell ⟨b, 1, none⟩ v).setCell ⟨b, 2, none⟩ r).cell? ⟨b, 1, none⟩ = some v ∧
    (((w.setCell ⟨b, 0, none⟩ u).setCell ⟨b, 1, none⟩ v).setCell ⟨b, 2, none⟩ r).cell? ⟨b, 2, none⟩ = some r :=
  ⟨(((h.set1 0 u).set1 1 v).set1 2 r).cell 0, (((h.set1 0 u).set1 1 v).set1 2 r).cell 1, (((h.set1 0 u).set1 1 v).set1 2 r).cell 2⟩
theorem below_put3 {w W : World} {b : Nat} (h : Below w.heap.size w W) (hb : w.heap.size ≤ b) (u v r : Value) : Below w.heap.size w (((W.setCell ⟨b, 0, none⟩ u).setCell ⟨b, 1, none⟩ v).setCell ⟨b, 2, none⟩ r) :=
  ((h.setCell (p := ⟨b, 0, none⟩) hb _).setCell (p := ⟨b, 1, none⟩) hb _).setCell (p := ⟨b, 2, none⟩) hb _

/-- What parsed answers. -/
def parsedV (s : List UInt8) : Value := match wrongP s with
  | some q => .tuple #[decV (false, [], 0), spotV 40 (q : Nat)]
  | none => .tuple #[decV (bareP s), .nilIface]
theorem wrongP_le {s : List UInt8} {q : Nat} (h : wrongP s = some q) : q ≤ s.length := by
  unfold wrongP at h
  split at h
  · injection h with h; rw [← h]; exact p0_le
  · split at h
    · rename_i h1; injection h with h; rw [← h]; exact pt_lt h1.1
    · split at h
      · rename_i h1; injection h with h; rw [← h]; exact p3_le h1.1
      · split at h
        · injection h with h; omega
        · cases h

set_option maxRecDepth 100000 in
theorem parsed_any (s : List UInt8) (w : World) (hs : s.length ≤ 140737488353000) :
    Calls Tryz.prog 37 #[sv s] w fun e w' => e = .returned (parsedV s) ∧ Below w.heap.size w w' := by
  have HR := Lib.hid (fun W => read_any s W hs)
  have hb0 : Below w.heap.size w (w.alloc (.cells #[.bool false, .string ⟨#[]⟩, .int .i64 0] 23)) := (Below.refl _ w).alloc (Nat.le_refl _) _
  have HK0 := Lib.hid (Blk.new w 23 #[.bool false, .string ⟨#[]⟩, .int .i64 0])
  have HB0 := Lib.hid hb0
  clear hb0
  cases hw : wrongP s with
  | some q =>
    have hq := wrongP_le hw
    have HV := Lib.hid (show litV s = .tuple #[.agg #[.bool false, .string ⟨#[]⟩, .string ⟨#[]⟩, .bool false, .string ⟨#[]⟩], .int .i64 (q : Nat)] by unfold litV; rw [hw])
    have HP := Lib.hid (show parsedV s = .tuple #[.agg #[.bool false, .string ⟨#[]⟩, .int .i64 0], spotV 40 (q : Nat)] by unfold parsedV; rw [hw]; rfl)
    rw [HV.out] at HR
    clear hw hq hs
    have hq0 : (0 : Int) ≤ (q : Int) := by omega
    go_enter Tryz.func37, Tryz.ntmps37
    go_wp2_with fail
    refine (HR.out _).mono ?_
    rintro e w1 ⟨rfl, hb1⟩
    have HK1 := Lib.hid ((HK0.out.below hb1 HK0.out.lt).alloc (.cells #[.bool false, .string ⟨#[]⟩, .string ⟨#[]⟩, .bool false, .string ⟨#[]⟩] 109))
    have HB1 := Lib.hid ((keepb HB0.out hb1).alloc (keepb HB0.out hb1).size (.cells #[.bool false, .string ⟨#[]⟩, .string ⟨#[]⟩, .bool false, .string ⟨#[]⟩] 109))
    obtain ⟨c0, c1, c2, f0, f1, f2⟩ := HK1.out.three
    clear hb1
    go_wp2_with fail
    obtain ⟨e0, e1, e2⟩ := HK1.out.put3 (.bool false) (.string ⟨#[]⟩) (.int .i64 0)
    exact bodyPost_ret (v := .tuple #[.agg #[.bool false, .string ⟨#[]⟩, .int .i64 0], spotV 40 (q : Nat)]) (by simp [results, Tryz.results37, go_sem, e0, e1, e2]) rfl ⟨by rw [HP.out], below_put3 HB1.out (Nat.le_refl _) _ _ _⟩
  | none =>
    have hl := parts_len s
    have HV := Lib.hid (show litV s = .tuple #[.agg #[.bool (negP s), sv (wholeP s), sv (behindP s), .bool (underP s), sv (expP s)], .int .i64 (-1)] by unfold litV; rw [hw])
    have HP := Lib.hid (show parsedV s = .tuple #[decV (bareP s), .nilIface] by unfold parsedV; rw [hw])
    have HQ := Lib.hid (fun W => bare_any (negP s) (underP s) (wholeP s) (behindP s) (expP s) W (by omega) (by omega) (expP_digits s))
    have hbr : stripD (negP s, wholeP s ++ behindP s, (if underP s then -(capE (expP s) : Int) else (capE (expP s) : Int)) - (behindP s).length) = bareP s := rfl
    rw [hbr] at HQ
    rw [HV.out] at HR
    clear hw hs hl hbr
    generalize negP s = g at *
    generalize underP s = u at *
    generalize wholeP s = a at *
    generalize behindP s = b at *
    generalize expP s = x at *
    generalize bareP s = d at *
    obtain ⟨g', t', x'⟩ := d
    unfold decV sv at *
    go_enter Tryz.func37, Tryz.ntmps37
    go_wp2_with fail
    refine (HR.out _).mono ?_
    rintro e w1 ⟨rfl, hb1⟩
    have HK1 := Lib.hid ((HK0.out.below hb1 HK0.out.lt).alloc (.cells #[.bool g, .string ⟨a.toArray⟩, .string ⟨b.toArray⟩, .bool u, .string ⟨x.toArray⟩] 109))
    have HB1 := Lib.hid ((keepb HB0.out hb1).alloc (keepb HB0.out hb1).size (.cells #[.bool g, .string ⟨a.toArray⟩, .string ⟨b.toArray⟩, .bool u, .string ⟨x.toArray⟩] 109))
    clear hb1
    go_wp2_with fail
    refine (HQ.out _).mono ?_
    rintro e w2 ⟨rfl, hb2⟩
    have HK2 := Lib.hid (HK1.out.below hb2 HK1.out.lt)
    have HB2 := Lib.hid (keepb HB1.out hb2)
    obtain ⟨c0, c1, c2, f0, f1, f2⟩ := HK2.out.three
    clear hb2
    go_simp
    repeat go_step
    obtain ⟨e0, e1, e2⟩ := HK2.out.put3 (.bool g') (.string ⟨t'.toArray⟩) (.int .i64 x')
    exact bodyPost_ret (v := .tuple #[.agg #[.bool g', .string ⟨t'.toArray⟩, .int .i64 x'], .nilIface]) (by simp [results, Tryz.results37, go_sem, e0, e1, e2]) rfl ⟨by rw [HP.out], below_put3 HB2.out (Nat.le_refl _) _ _ _⟩
end Go.Proofs.YtjggmdlecdbeeaaGreatDoor

namespace Go.Proofs.YtjggmdlecdbeeaaGreatDoor
open Go.RowKit
set_option linter.unusedSimpArgs false
set_option linter.unusedVariables false

def checkV (s : List UInt8) : Value := match wrongP s with
  | some q => spotV 40 (q : Nat)
  | none => .nilIface
set_option maxRecDepth 100000 in
theorem check_any (s : List UInt8) (w : World) (hs : s.length ≤ 140737488353000) :
    Calls Tryz.prog 33 #[sv s] w fun e w' => e = .returned (checkV s) ∧ Below w.heap.size w w' := by
  have HR := Lib.hid (fun W => parsed_any s W hs)
  cases hw : wrongP s with
  | some q =>
    have HV := Lib.hid (show parsedV s = .tuple #[.agg #[.bool false, .string ⟨#[]⟩, .int .i64 0], spotV 40 (q : Nat)] by unfold parsedV; rw [hw]; rfl)
    have HP := Lib.hid (show checkV s = spotV 40 (q : Nat) by unfold checkV; rw [hw])
    rw [HV.out] at HR
    clear hw hs
    go_enter Tryz.func33, Tryz.ntmps33
    go_wp2_with fail
    refine (HR.out _).mono ?_
    rintro e w1 ⟨rfl, hb1⟩
    go_wp2_with fail
    go_ret
    exact ⟨by rw [HP.out] <;> rfl, hb1.alloc hb1.size _⟩
  | none =>
    have HV := Lib.hid (show parsedV s = .tuple #[decV (bareP s), .nilIface] by unfold parsedV; rw [hw])
    have HP := Lib.hid (show checkV s = .nilIface by unfold checkV; rw [hw])
    rw [HV.out] at HR
    clear hw hs
    generalize bareP s = d at *
    obtain ⟨g, t, x⟩ := d
    unfold decV at *
    go_enter Tryz.func33, Tryz.ntmps33
    go_wp2_with fail
    refine (HR.out _).mono ?_
    rintro e w1 ⟨rfl, hb1⟩
    go_wp2_with fail
    go_ret
    exact ⟨by rw [HP.out] <;> rfl, hb1.alloc hb1.size _⟩

theorem near_any (x : Int) (w : World) :
    Calls Tryz.prog 38 #[.int .i64 x] w fun e w' => e = .returned (.bool (nearP x)) ∧ w = w' := by
  by_cases h1 : -1099511627776 ≤ x
  · by_cases h2 : x ≤ 1099511627776
    · have h : nearP x = true := by unfold nearP; simp; omega
      rw [h]
      have t1 : decide (-1099511627776 ≤ x) = true := by simp; omega
      have t2 : decide (x ≤ 1099511627776) = true := by simp; omega
      clear h1 h2 h
      go_enter Tryz.func38, Tryz.ntmps38
      go_wp2
      go_ret
      exact ⟨rfl, rfl⟩
    · have h : nearP x = false := by unfold nearP; simp; omega
      rw [h]
      have t1 : decide (-1099511627776 ≤ x) = true := by simp; omega
      have t2 : decide (x ≤ 1099511627776) = false := by simp; omega
      clear h1 h2 h
      go_enter Tryz.func38, Tryz.ntmps38
      go_wp2
      go_ret
      exact ⟨rfl, rfl⟩
  · have h : nearP x = false := by unfold nearP; simp; omega
    rw [h]
    have t1 : decide (-1099511627776 ≤ x) = false := by simp; omega
    clear h1 h
    go_enter Tryz.func38, Tryz.ntmps38
    go_wp2
    go_ret
    exact ⟨rfl, rfl⟩

set_option maxRecDepth 100000 in
theorem sign_any (d : Dm) (w : World) :
    Calls Tryz.prog 46 #[decV d] w fun e w' => e = .returned (.int .i64 (signP d)) ∧ Below w.heap.size w w' := by
  obtain ⟨g, l, x⟩ := d
  unfold decV sv
  by_cases hl : l = []
  · have HP := Lib.hid (show signP (g, l, x) = 0 by unfold signP; rw [if_pos hl])
    have ke : l.isEmpty = true := by rw [hl]; rfl
    have ke2 : ((⟨l.toArray⟩ : ByteArray) == ⟨#[]⟩) = true := by rw [hl]; rfl
    clear hl
    go_enter Tryz.func46, Tryz.ntmps46
    go_wp2
    go_ret
    exact ⟨by rw [HP.out] <;> rfl, by go_grown⟩
  · have ke : l.isEmpty = false := by cases l with
      | nil => exact absurd rfl hl
      | cons a l => rfl
    have ke2 : ((⟨l.toArray⟩ : ByteArray) == ⟨#[]⟩) = false := by rw [sv_empty]; simpa using hl
    cases g with
    | true =>
      have HP := Lib.hid (show signP (true, l, x) = -1 by unfold signP; rw [if_neg hl]; rfl)
      clear hl
      go_enter Tryz.func46, Tryz.ntmps46
      go_wp2
      go_ret
      exact ⟨by rw [HP.out] <;> rfl, by go_grown⟩
    | false =>
      have HP := Lib.hid (show signP (false, l, x) = 1 by unfold signP; rw [if_neg hl]; rfl)
      clear hl
      go_enter Tryz.func46, Tryz.ntmps46
      go_wp2
      go_ret
      exact ⟨by rw [HP.out] <;> rfl, by go_grown⟩

/-- How two bare decimals' magnitudes stand. -/
def magP (d e : Dm) : Int := if topD d < topD e then -1 else if topD e < topD d then 1 else Lib.compareBytes d.2.1 e.2.1
theorem cmpB_range : ∀ (a b : List UInt8), Lib.compareBytes a b = -1 ∨ Lib.compareBytes a b = 0 ∨ Lib.compareBytes a b = 1
  | [], [] => .inr (.inl rfl)
  | [], _ :: _ => .inl rfl
  | _ :: _, [] => .inr (.inr rfl)
  | x :: a, y :: b => by
    unfold Lib.compareBytes
    split
    · exact .inl rfl
    · split
      · exact .inr (.inr rfl)
      · exact cmpB_range a b
theorem magP_range (d e : Dm) : magP d e = -1 ∨ magP d e = 0 ∨ magP d e = 1 := by
  unfold magP
  split
  · exact .inl rfl
  · split
    · exact .inr (.inr rfl)
    · exact cmpB_range _ _

set_option maxRecDepth 100000 in
theorem magnitudes_any (d e : Dm) (w : World) (hd : d.2.1.length ≤ 140737488353000) (he : e.2.1.length ≤ 140737488353000) (xd : nearP d.2.2 = true) (xe : nearP e.2.2 = true) :
    Calls Tryz.prog 47 #[decV d, decV e] w fun r w' => r = .returned (.int .i64 (magP d e)) ∧ Below w.heap.size w w' := by
  obtain ⟨g, l, x⟩ := d
  obtain ⟨h, m, y⟩ := e
  simp only [nearP, decide_eq_true_eq] at hd he xd xe
  have HC := Lib.hid (fun W => Tryz.strings_Compare ⟨l.toArray⟩ ⟨m.toArray⟩ W)
  have HP : magP (g, l, x) (h, m, y) = if (l.length : Int) + x < (m.length : Int) + y then -1 else if (m.length : Int) + y < (l.length : Int) + x then 1 else Lib.compareBytes l m := rfl
  simp only [List.toList_toArray] at HC
  generalize Lib.compareBytes l m = c at *
  have hln : ((l.length : Nat) : Int) ≤ 140737488353000 := by omega
  have hmn : ((m.length : Nat) : Int) ≤ 140737488353000 := by omega
  clear hd he
  obtain ⟨u, hu⟩ : ∃ u : Int, (l.length : Int) + x = u := ⟨_, rfl⟩
  obtain ⟨v, hv⟩ : ∃ v : Int, (m.length : Int) + y = v := ⟨_, rfl⟩
  have k1 : IntKind.i64.wrap ((l.length : Int) + x) = u := by rw [IntWalk.i64_in _ (by omega)]; exact hu
  have k2 : IntKind.i64.wrap ((m.length : Int) + y) = v := by rw [IntWalk.i64_in _ (by omega)]; exact hv
  rw [hu, hv] at HP
  clear hln hmn xd xe hu hv
  unfold decV sv
  rcases Int.lt_trichotomy u v with ho | ho | ho
  · rw [if_pos ho] at HP
    have HPP := Lib.hid HP
    clear HP
    have t1 : decide (u < v) = true := by simpa using ho
    clear ho
    go_enter Tryz.func47, Tryz.ntmps47
    go_wp2_with fail
    go_quiet (fail)
    go_wp2_with fail
    go_ret
    exact ⟨by rw [HPP.out] <;> rfl, below_drewN (by go_grown) _⟩
  · rw [if_neg (by omega), if_neg (by omega)] at HP
    have HPP := Lib.hid HP
    clear HP
    subst ho
    have t1 : decide (u < u) = false := by simp
    go_enter Tryz.func47, Tryz.ntmps47
    go_wp2_with fail
    go_quiet (fail)
    go_wp2_with fail
    refine (HC.out _).mono ?_
    rintro e w1 ⟨rfl, rfl⟩
    go_wp2_with fail
    go_ret
    exact ⟨by rw [HPP.out] <;> rfl, below_drewN (by go_grown) _⟩
  · rw [if_neg (by omega), if_pos ho] at HP
    have HPP := Lib.hid HP
    clear HP
    have t1 : decide (u < v) = false := by simp; omega
    have t2 : decide (v < u) = true := by simpa using ho
    clear ho
    go_enter Tryz.func47, Tryz.ntmps47
    go_wp2_with fail
    go_quiet (fail)
    go_wp2_with fail
    go_ret
    exact ⟨by rw [HPP.out] <;> rfl, below_drewN (by go_grown) _⟩
end Go.Proofs.YtjggmdlecdbeeaaGreatDoor

namespace Go.Proofs.YtjggmdlecdbeeaaGreatDoor
open Go.RowKit
set_option linter.unusedSimpArgs false
set_option linter.unusedVariables false
attribute [local go_sem] SGives_value SGives_skip SGives_enter

theorem ret_two {u v u' v' : Value} (h : u = u') (k : v = v') : Ending.returned (.tuple #[u, v]) = .returned (.tuple #[u', v']) := by rw [h, k]
def cmpD (d e : Dm) : Int := if signP d < signP e then -1 else if signP e < signP d then 1 else if signP d = 0 then 0 else signP d * magP d e
def compV (a b : List UInt8) : Value := match wrongP a with
  | some q => .tuple #[.int .i64 0, spotV 40 (q : Nat)]
  | none => match wrongP b with
    | some q => .tuple #[.int .i64 0, spotV 40 (q : Nat)]
    | none => if nearP (bareP a).2.2 && nearP (bareP b).2.2 then .tuple #[.int .i64 (cmpD (bareP a) (bareP b)), .nilIface] else .tuple #[.int .i64 0, enoV 3]
theorem signP_range (d : Dm) : signP d = -1 ∨ signP d = 0 ∨ signP d = 1 := by unfold signP; split <;> (try split) <;> simp

set_option maxRecDepth 100000 in
set_option maxHeartbeats 1000000 in
theorem compare_any (a b : List UInt8) (w : World) (ha : a.length ≤ 140737488353000) (hb : b.length ≤ 140737488353000) :
    Calls Tryz.prog 21 #[sv a, sv b] w fun e w' => e = .returned (compV a b) ∧ Below w.heap.size w w' := by
  have HR := Lib.hid (fun W => parsed_any a W ha)
  have HQ := Lib.hid (fun W => parsed_any b W hb)
  have HLA := Lib.hid ha
  have HLB := Lib.hid hb
  clear ha hb
  cases hwa : wrongP a with
  | some q =>
    have HV := Lib.hid (show parsedV a = .tuple #[.agg #[.bool false, .string ⟨#[]⟩, .int .i64 0], spotV 40 (q : Nat)] by unfold parsedV; rw [hwa]; rfl)
    have HP := Lib.hid (show compV a b = .tuple #[.int .i64 0, spotV 40 (q : Nat)] by unfold compV; rw [hwa])
    rw [HV.out] at HR
    clear hwa
    go_enter Tryz.func21, Tryz.ntmps21
    go_wp2_with fail
    refine (HR.out _).mono ?_
    rintro e w1 ⟨rfl, hb1⟩
    go_wp2_with fail
    go_ret2
    exact ⟨by rw [HP.out] <;> rfl, hb1.alloc hb1.size _⟩
  | none =>
    have HV := Lib.hid (show parsedV a = .tuple #[decV (bareP a), .nilIface] by unfold parsedV; rw [hwa])
    rw [HV.out] at HR
    have hla := bareP_len a
    have HLA := Lib.hid (show (bareP a).2.1.length ≤ 140737488353000 by have := HLA.out; omega)
    clear hla
    cases hwb : wrongP b with
    | some q =>
      have HU := Lib.hid (show parsedV b = .tuple #[.agg #[.bool false, .string ⟨#[]⟩, .int .i64 0], spotV 40 (q : Nat)] by unfold parsedV; rw [hwb]; rfl)
      have HP := Lib.hid (show compV a b = .tuple #[.int .i64 0, spotV 40 (q : Nat)] by unfold compV; rw [hwa, hwb])
      rw [HU.out] at HQ
      clear hwa hwb
      generalize bareP a = d at *
      obtain ⟨g, t, x⟩ := d
      unfold decV at *
      go_enter Tryz.func21, Tryz.ntmps21
      go_wp2_with fail
      refine (HR.out _).mono ?_
      rintro e w1 ⟨rfl, hb1⟩
      have HB1 := Lib.hid (hb1.alloc hb1.size (.cells #[.bool g, .string ⟨t.toArray⟩, .int .i64 x] 23))
      clear hb1
      unfold sv at *
      go_wp2_with fail
      refine (HQ.out _).mono ?_
      rintro e w2 ⟨rfl, hb2⟩
      have HB2 := Lib.hid (keepb HB1.out hb2)
      clear hb2
      go_wp2_with fail
      go_ret2
      exact ⟨by rw [HP.out] <;> rfl, HB2.out.alloc HB2.out.size _⟩
    | none =>
      have HU := Lib.hid (show parsedV b = .tuple #[decV (bareP b), .nilIface] by unfold parsedV; rw [hwb])
      have HP := Lib.hid (show compV a b = if nearP (bareP a).2.2 && nearP (bareP b).2.2 then .tuple #[.int .i64 (cmpD (bareP a) (bareP b)), .nilIface] else .tuple #[.int .i64 0, enoV 3] by unfold compV; rw [hwa, hwb])
      rw [HU.out] at HQ
      have hlb := bareP_len b
      have HLB := Lib.hid (show (bareP b).2.1.length ≤ 140737488353000 by have := HLB.out; omega)
      clear hwa hwb hlb
      generalize bareP a = d at *
      generalize bareP b = f at *
      have HNA := Lib.hid (fun W => near_any d.2.2 W)
      have HNB := Lib.hid (fun W => near_any f.2.2 W)
      have HXA := Lib.hid (fun h h' W => magnitudes_any d f W HLA.out HLB.out h h')
      have HSA := Lib.hid (fun W => sign_any d W)
      have HSB := Lib.hid (fun W => sign_any f W)
      have HM := Lib.hid (magP_range d f)
      have HRA := Lib.hid (signP_range d)
      have HRB := Lib.hid (signP_range f)
      have HCD := Lib.hid (show cmpD d f = if signP d < signP f then -1 else if signP f < signP d then 1 else if signP d = 0 then 0 else signP d * magP d f from rfl)
      generalize cmpD d f = cd at *
      generalize signP d = s at *
      generalize signP f = r at *
      generalize magP d f = m at *
      have HNE := Lib.hid (rfl : nearP d.2.2 = nearP d.2.2)
      have HNF := Lib.hid (rfl : nearP f.2.2 = nearP f.2.2)
      generalize hna : nearP d.2.2 = na at *
      generalize hnb : nearP f.2.2 = nb at *
      obtain ⟨g, t, x⟩ := d
      obtain ⟨g', t', x'⟩ := f
      simp only at HNA HNB
      unfold decV at *
      clear HNE HNF
      have HXX : Hid (na = true → nb = true → ∀ W, Calls Tryz.prog 47 #[.agg #[.bool g, .string ⟨t.toArray⟩, .int .i64 x], .agg #[.bool g', .string ⟨t'.toArray⟩, .int .i64 x']] W fun r w' => r = .returned (.int .i64 m) ∧ Below W.heap.size W w') := Lib.hid (fun h h' W => HXA.out h h' W)
      clear HXA hna hnb HLA HLB
      unfold sv at *
      go_enter Tryz.func21, Tryz.ntmps21
      go_wp2_with fail
      refine (HR.out _).mono ?_
      rintro e w1 ⟨rfl, hb1⟩
      have HB1 := Lib.hid (hb1.alloc hb1.size (.cells #[.bool g, .string ⟨t.toArray⟩, .int .i64 x] 23))
      have HK1 := Lib.hid (Blk.new w1 23 #[.bool g, .string ⟨t.toArray⟩, .int .i64 x])
      clear hb1
      go_wp2_with fail
      refine (HQ.out _).mono ?_
      rintro e w2 ⟨rfl, hb2⟩
      have HB2 := Lib.hid (((keepb HB1.out hb2).alloc (keepb HB1.out hb2).size (.cells #[.bool g', .string ⟨t'.toArray⟩, .int .i64 x'] 23)))
      have HK2 := Lib.hid ((HK1.out.below hb2 HK1.out.lt).alloc (.cells #[.bool g', .string ⟨t'.toArray⟩, .int .i64 x'] 23))
      have HJ2 := Lib.hid (Blk.new w2 23 #[.bool g', .string ⟨t'.toArray⟩, .int .i64 x'])
      obtain ⟨c0, c1, c2, f0, f1, f2⟩ := HK2.out.three
      obtain ⟨d0, d1, d2, g0, g1, g2⟩ := HJ2.out.three
      clear hb2
      cases na with
      | false =>
        have HPP := Lib.hid (show compV a b = .tuple #[.int .i64 0, enoV 3] by rw [HP.out]; rfl)
        clear HP
        go_wp2_with fail
        refine (HNA.out _).mono ?_
        rintro e w3 ⟨rfl, rfl⟩
        go_wp2_with fail
        go_ret2
        exact ⟨by rw [HPP.out] <;> rfl, HB2.out⟩
      | true =>
        cases nb with
        | false =>
          have HPP := Lib.hid (show compV a b = .tuple #[.int .i64 0, enoV 3] by rw [HP.out]; rfl)
          clear HP
          go_wp2_with fail
          refine (HNA.out _).mono ?_
          rintro e w3 ⟨rfl, rfl⟩
          go_wp2_with fail
          refine (HNB.out _).mono ?_
          rintro e w3 ⟨rfl, rfl⟩
          go_wp2_with fail
          go_ret2
          exact ⟨by rw [HPP.out] <;> rfl, HB2.out⟩
        | true =>
          have HPP := Lib.hid (show compV a b = .tuple #[.int .i64 cd, .nilIface] by rw [HP.out]; rfl)
          have HX := Lib.hid (HXX.out rfl rfl)
          clear HP HXX
          go_wp2_with fail
          refine (HNA.out _).mono ?_
          rintro e w3 ⟨rfl, rfl⟩
          go_wp2_with fail
          refine (HNB.out _).mono ?_
          rintro e w3 ⟨rfl, rfl⟩
          go_wp2_with fail
          generalize (w2.alloc (.cells #[.bool g', .string ⟨t'.toArray⟩, .int .i64 x'] 23)) = w3 at *
          have hz1 := HK2.out.lt
          have hz2 := HJ2.out.lt
          clear c0 c1 c2 f0 f1 f2 d0 d1 d2 g0 g1 g2
          obtain ⟨S, SD⟩ : ∃ S : World → Prop, Go.RowKit.Hid (∀ w' : World, S w' ↔ (Blk w' w1.heap.size 23 #[.bool g, .string ⟨t.toArray⟩, .int .i64 x] ∧ Blk w' w2.heap.size 23 #[.bool g', .string ⟨t'.toArray⟩, .int .i64 x'] ∧ Below w.heap.size w w')) := ⟨_, Lib.hid (fun _ => Iff.rfl)⟩
          refine wp_region_sure (S := S) (by kernel_rfl) (by kernel_rfl) ((SD.out _).2 ⟨HK2.out.drew, HJ2.out.drew, HB2.out.drew⟩) ?_
          repeat
            (first
              | (refine SureL.no (by rfl) ?_; simp only [Act.put, List.setIfInBounds_toArray, List.set_cons_zero, List.set_cons_succ])
              | (refine' SureL.yes (by rfl) (fun wS hS => ?_) ?_
                 rotate_left
                 · have hS' := (SD.out _).1 hS
                   obtain ⟨hS1, hS2, hBS⟩ := hS'
                   obtain ⟨c0, c1, c2, f0, f1, f2⟩ := hS1.three
                   obtain ⟨d0, d1, d2, g0, g1, g2⟩ := hS2.three
                   go_simp
                   first
                     | exact ⟨rfl, hS⟩
                     | (with_reducible refine (HSA.out _).mono ?_; rintro e w' ⟨rfl, hbn⟩; exact ⟨rfl, (SD.out _).2 ⟨hS1.below hbn hS1.lt, hS2.below hbn hS2.lt, keepb hBS hbn⟩⟩)
                     | (with_reducible refine (HSB.out _).mono ?_; rintro e w' ⟨rfl, hbn⟩; exact ⟨rfl, (SD.out _).2 ⟨hS1.below hbn hS1.lt, hS2.below hbn hS2.lt, keepb hBS hbn⟩⟩)
                 simp only [Act.put, List.setIfInBounds_toArray, List.set_cons_zero, List.set_cons_succ]))
          refine SureL.nil ?_
          intro wE hE
          obtain ⟨hS1, hS2, hbw⟩ := (SD.out _).1 hE
          have HK3 := Lib.hid hS1
          have HJ3 := Lib.hid hS2
          have HB3 := Lib.hid hbw
          clear hS1 hS2 hbw hE SD S
          have hs := HRA.out
          have hr := HRB.out
          have hm := HM.out
          have hcd := HCD.out
          rcases Int.lt_trichotomy s r with ho | ho | ho
          · rw [if_pos ho] at hcd
            have t1 : decide (s < r) = true := by simpa using ho
            have HC := Lib.hid hcd
            clear ho hs hr hm hcd
            go_wp2_with fail
            go_ret2
            exact ⟨by rw [HPP.out, HC.out] <;> rfl, HB3.out⟩
          · rw [if_neg (by omega), if_neg (by omega)] at hcd
            subst ho
            have t1 : decide (s < s) = false := by simp
            by_cases hz : s = 0
            · rw [if_pos hz] at hcd
              have HC := Lib.hid hcd
              have t3 : (s == 0) = true := by simpa using hz
              clear hs hr hm hcd hz
              go_wp2_with fail
              go_ret2
              exact ⟨by rw [HPP.out, HC.out] <;> rfl, HB3.out⟩
            · rw [if_neg hz] at hcd
              have t3 : (s == 0) = false := by simpa using hz
              have t4 : IntKind.i64.wrap (s * m) = s * m := by
                apply IntWalk.i64_in
                rcases hs with h | h | h <;> rcases hm with h' | h' | h' <;> rw [h, h'] <;> decide
              have HC := Lib.hid hcd
              clear hs hr hm hcd hz
              obtain ⟨c0, c1, c2, f0, f1, f2⟩ := HK3.out.three
              obtain ⟨d0, d1, d2, g0, g1, g2⟩ := HJ3.out.three
              go_wp2_with fail
              refine (HX.out _).mono ?_
              rintro e w4 ⟨rfl, hb4⟩
              have HB4 := Lib.hid (keepb HB3.out hb4)
              clear hb4
              go_wp2_with fail
              go_ret2
              exact ⟨by rw [HPP.out, HC.out] <;> rfl, HB4.out⟩
          · rw [if_neg (by omega), if_pos ho] at hcd
            have t1 : decide (s < r) = false := by simp; omega
            have t2 : decide (r < s) = true := by simpa using ho
            have HC := Lib.hid hcd
            clear ho hs hr hm hcd
            go_wp2_with fail
            go_ret2
            exact ⟨by rw [HPP.out, HC.out] <;> rfl, HB3.out⟩
end Go.Proofs.YtjggmdlecdbeeaaGreatDoor
