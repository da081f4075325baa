/- The walk of dec.stripped. The walk of bare. Plain law of decimals: what a bare decimal's magnitude is among the floats, how it is rounded, how two stand. Plain law of decimals: the magnitude of a bare decimal, cut, by one formula. Plain law of decimals: a lesser magnitude rounds to no greater float. The walks of dec.parsed, Check, near, sign. The walks of dec.Check, near, sign, magnitudes. The walk of dec.Compare. -/
import Derived.Test.YtnajondbdeclmaaGreatDoorDecA
import Derived.Test.YtnajondbdeclmaaGreatDoorShelf
import Derived.Deep.DeepCutAuto
import Derived.Test.YtnajondbdeclmaaGreatDoorDecP
import Derived.Test.YtnajondbdeclmaaGreatDoorFltQ
import Derived.Test.YtnajondbdeclmaaGreatDoorTextP
import Derived.Test.YtnajondbdeclmaaGreatDoorParse
namespace Go.Proofs.YtnajondbdeclmaaGreatDoor
open Go.RowKit
set_option linter.unusedSimpArgs false
set_option linter.unusedVariables false

/-- A decimal's value. -/
def decV (d : Dm) : Value := .agg #[.bool d.1, sv d.2.1, .int .i64 d.2.2]

theorem trimL_eq (l : List UInt8) : Lib.trimLeftB l 48 = noughtsL l := rfl
theorem trimR_eq (l : List UInt8) : Lib.trimRightB l 48 = noughtsR l := rfl
theorem noughtsL_le (l : List UInt8) : (noughtsL l).length ≤ l.length := (List.dropWhile_suffix _).length_le
theorem noughtsR_le (l : List UInt8) : (noughtsR l).length ≤ l.length := by
  unfold noughtsR
  rw [List.length_reverse]
  have := (List.dropWhile_suffix (p := (· == (48 : UInt8))) (l := l.reverse)).length_le
  rw [List.length_reverse] at this
  exact this
/-- A text against the empty one. -/
theorem sv_empty (l : List UInt8) : ((⟨l.toArray⟩ : ByteArray) == ⟨#[]⟩) = decide (l = []) := by
  show (l.toArray == #[]) = _
  cases l <;> simp
theorem sv_len (l : List UInt8) : (⟨l.toArray⟩ : ByteArray).size = l.length := by simp [ByteArray.size]

set_option maxRecDepth 100000 in
set_option maxHeartbeats 1000000 in
theorem stripped_any (g : Bool) (s : List UInt8) (x : Int) (w : World) (hs : s.length ≤ 2305843009213693952) (hx : -2305843009213693952 ≤ x ∧ x ≤ 2305843009213693952) :
    Calls Tryz.prog 139 #[decV (g, s, x)] w fun e w' => e = .returned (decV (stripD (g, s, x))) ∧ Below w.heap.size w w' := by
  have h48 : (48 : UInt8).toNat < 128 := by decide
  have hL := noughtsL_le s
  have hR := noughtsR_le (noughtsL s)
  have HL := Lib.hid (fun W => Tryz.strings_TrimLeft_one ⟨s.toArray⟩ 48 h48 W)
  have hsz : (⟨(noughtsL s).toArray⟩ : ByteArray).size ≤ 9223372036854775807 := by rw [sv_len]; omega
  have HR := Lib.hid (fun W => Tryz.strings_TrimRight_one ⟨(noughtsL s).toArray⟩ 48 h48 W hsz)
  simp only [trimL_eq, trimR_eq, List.toList_toArray] at HL HR
  clear h48 hsz
  have HD : Go.RowKit.Hid (stripD (g, s, x) = if noughtsR (noughtsL s) = [] then (false, [], 0) else (g, noughtsR (noughtsL s), x + (noughtsL s).length - (noughtsR (noughtsL s)).length)) := Lib.hid rfl
  generalize noughtsR (noughtsL s) = t at *
  generalize noughtsL s = l at *
  have hlI : ((l.length : Nat) : Int) ≤ 2305843009213693952 := by omega
  have htI : ((t.length : Nat) : Int) ≤ 2305843009213693952 := by omega
  have k1 : IntKind.i64.wrap (x + (l.length : Int)) = x + l.length := IntWalk.i64_in _ (by omega)
  have k2 : IntKind.i64.wrap (x + (l.length : Int) - (t.length : Int)) = x + l.length - t.length := IntWalk.i64_in _ (by omega)
  have HB := Lib.hid (((Below.refl _ w).alloc (Nat.le_refl _) (.cells #[.bool g, .string ⟨s.toArray⟩, .int .i64 x] 102)).alloc (by simp) (.cells #[.bool false, .string ⟨#[]⟩, .int .i64 0] 102))
  have ke : t.isEmpty = decide (t = []) := by cases t <;> rfl
  unfold decV sv
  clear hs hx hL hR hlI htI
  cases hE : decide (t = []) with
  | true =>
    have HE := Lib.hid (of_decide_eq_true hE)
    rw [hE] at ke
    clear hE
    go_enter Tryz.func139, Tryz.ntmps139
    go_wp2_with fail
    refine (HL.out _).mono ?_
    rintro e w' ⟨rfl, rfl⟩
    go_wp2_with fail
    refine (HR.out _).mono ?_
    rintro e w' ⟨rfl, rfl⟩
    go_wp2_with fail
    exact bodyPost_ret (v := .agg #[.bool false, .string ⟨#[]⟩, .int .i64 0]) (by simp [results, Tryz.results139, go_sem]) rfl ⟨by rw [HD.out, if_pos HE.out], HB.out⟩
  | false =>
    have HE := Lib.hid (of_decide_eq_false hE)
    rw [hE] at ke
    clear hE
    go_enter Tryz.func139, Tryz.ntmps139
    go_wp2_with fail
    refine (HL.out _).mono ?_
    rintro e w' ⟨rfl, rfl⟩
    go_wp2_with fail
    refine (HR.out _).mono ?_
    rintro e w' ⟨rfl, rfl⟩
    go_wp2_with fail
    exact bodyPost_ret (v := .agg #[.bool g, .string ⟨t.toArray⟩, .int .i64 (x + (l.length : Int) - (t.length : Int))]) (by simp [results, Tryz.results139, go_sem]) rfl ⟨by rw [HD.out, if_neg HE.out], ((Below.refl _ w).alloc (Nat.le_refl _) _).alloc (by simp) _⟩
end Go.Proofs.YtnajondbdeclmaaGreatDoor

namespace Go.Proofs.YtnajondbdeclmaaGreatDoor
open Go.RowKit
set_option linter.unusedSimpArgs false
set_option linter.unusedVariables false

theorem capE_step (l : List UInt8) (i : Nat) (h : i < l.length) : capE (l.take (i + 1)) = if capE (l.take i) < farE then 10 * capE (l.take i) + (bt l i - 48) else capE (l.take i) := by
  unfold capE bt
  rw [List.take_succ_eq_append_getElem h, List.foldl_append, List.getD_eq_getElem?_getD, List.getElem?_eq_getElem h]
  rfl
theorem capE_stop (l : List UInt8) (i : Nat) (h : farE ≤ capE (l.take i)) : capE l = capE (l.take i) := by
  have key : ∀ (m : List UInt8) (e : Nat), farE ≤ e → m.foldl (fun e c => if e < farE then 10 * e + (c.toNat - 48) else e) e = e := by
    intro m
    induction m with
    | nil => intro e _; rfl
    | cons c m ih => intro e he; rw [List.foldl_cons, if_neg (by omega)]; exact ih e he
  have : capE l = (l.take i ++ l.drop i).foldl (fun e c => if e < farE then 10 * e + (c.toNat - 48) else e) 0 := by rw [List.take_append_drop]; rfl
  rw [this, List.foldl_append]
  exact key _ _ h
theorem capE_take_lt (l : List UInt8) (i : Nat) (hl : ∀ c ∈ l, isD c = true) : capE (l.take i) < 10 * farE := capE_lt _ fun c hc => hl c (List.mem_of_mem_take hc)
theorem bt_isD {l : List UInt8} {i : Nat} (h : i < l.length) (hl : ∀ c ∈ l, isD c = true) : 48 ≤ bt l i ∧ bt l i ≤ 57 := by
  have := hl l[i] (List.getElem_mem h)
  unfold isD at this
  unfold bt
  rw [List.getD_eq_getElem?_getD, List.getElem?_eq_getElem h]
  simpa using this

/-- The rounds of bare: at place i the number is that of the first i digits. -/
theorem sv_cat (a b : List UInt8) : ((⟨a.toArray⟩ : ByteArray) ++ ⟨b.toArray⟩) = ⟨(a ++ b).toArray⟩ := by
  apply ByteArray.ext
  simp
theorem far_num : farE = 35184372088832 := rfl

set_option maxRecDepth 100000 in
set_option maxHeartbeats 1000000 in
theorem bare_any (g u : Bool) (a b e : List UInt8) (w : World) (ha : a.length + b.length ≤ 140737488353000) (he : e.length ≤ 140737488353000) (hd : ∀ c ∈ e, isD c = true) :
    Calls Tryz.prog 114 #[.agg #[.bool g, sv a, sv b, .bool u, sv e]] w fun x w' => x = .returned (decV (stripD (g, a ++ b, (if u then -(capE e : Int) else (capE e : Int)) - b.length))) ∧ Below w.heap.size w w' := by
  have HD := Lib.hid hd
  have HA := Lib.hid ha
  have heI : ((e.length : Nat) : Int) ≤ 140737488353000 := by omega
  clear hd ha he
  have HN := Lib.hid (show Blk ((w.alloc (.cells #[.bool g, .string ⟨a.toArray⟩, .string ⟨b.toArray⟩, .bool u, .string ⟨e.toArray⟩] 144)).alloc (.cells #[.bool false, .string ⟨#[]⟩, .int .i64 0] 102)) (w.heap.size + 1) 102 #[.bool false, .string ⟨#[]⟩, .int .i64 0] by have := Blk.new (w.alloc (.cells #[.bool g, .string ⟨a.toArray⟩, .string ⟨b.toArray⟩, .bool u, .string ⟨e.toArray⟩] 144)) 102 #[.bool false, .string ⟨#[]⟩, .int .i64 0]; simpa using this)
  have HN0 := Lib.hid (((Below.refl _ w).alloc (Nat.le_refl _) (.cells #[.bool g, .string ⟨a.toArray⟩, .string ⟨b.toArray⟩, .bool u, .string ⟨e.toArray⟩] 144)).alloc (by simp) (.cells #[.bool false, .string ⟨#[]⟩, .int .i64 0] 102))
  unfold sv
  go_enter Tryz.func114, Tryz.ntmps114
  go_wp2_with fail
  go_loop [3, 4] (fun x v => ∃ k : Nat, v = .int .i64 (k : Int) ∧ k ≤ e.length ∧ x = .int .i64 ((capE (e.take k) : Nat) : Int)) (fun x v => e.length - (intOf v).toNat)
  case atStart => exact ⟨0, by go_num, Nat.zero_le _, rfl⟩
  case round =>
    obtain ⟨k, rfl, hk, rfl⟩ := hrel
    have hkl : ((k : Nat) : Int) ≤ ((e.length : Nat) : Int) := by omega
    have hc : (capE (e.take k) : Int) < 10 * 35184372088832 := by have := capE_take_lt e k HD.out; unfold farE at this; omega
    rcases Nat.lt_or_ge k e.length with hlt | hge
    · have u1 : decide (((k : Nat) : Int) < ((e.length : Nat) : Int)) = true := by simp; omega
      have u1' : decide (k < e.length) = true := by simpa using hlt
      have hki : ((k : Nat) : Int) < ((e.length : Nat) : Int) := by omega
      rcases Nat.lt_or_ge (capE (e.take k)) farE with hf | hf
      · have hst := capE_step e k hlt
        rw [if_pos hf] at hst
        have hbb := bt_isD hlt HD.out
        have hbk := bget e k hlt
        have HST := Lib.hid hst
        have HK := Lib.hid hlt
        clear hst
        generalize capE (e.take k) = c at *
        generalize bt e k = y at *
        have u2 : decide (((c : Nat) : Int) < 35184372088832) = true := by unfold farE at hf; simp; omega
        have k1 : IntKind.i64.wrap (10 * (c : Int)) = 10 * (c : Int) := IntWalk.i64_in _ (by unfold farE at hf; omega)
        have k2 : IntKind.u8.wrap ((y : Int) - 48) = ((y - 48 : Nat) : Int) := by
          have : (y : Int) - 48 = ((y - 48 : Nat) : Int) := by omega
          rw [this]; exact IntWalk.u8_in _ (by omega)
        have k4 : IntKind.i64.wrap ((y - 48 : Nat) : Int) = ((y - 48 : Nat) : Int) := IntWalk.i64_in _ (by omega)
        have k3 : IntKind.i64.wrap (10 * (c : Int) + ((y - 48 : Nat) : Int)) = ((10 * c + (y - 48) : Nat) : Int) := by rw [IntWalk.i64_in _ (by unfold farE at hf; omega)]; omega
        generalize y - 48 = z at *
        clear hf hbb hc
        go_wp2_with fail
        refine ⟨⟨k + 1, by go_num, HK.out, ?_⟩, ?_⟩
        · rw [HST.out]; congr 1
        · have := HK.out; simp [intOf]; omega
      · have u2 : decide (((capE (e.take k) : Nat) : Int) < 35184372088832) = false := by unfold farE at hf; simp; omega
        have HC := Lib.hid (capE_stop e k hf)
        clear hf
        generalize capE (e.take k) = c at *
        have k5 : IntKind.i64.wrap (-(c : Int)) = -(c : Int) := IntWalk.i64_in _ (by omega)
        have k6 : IntKind.i64.wrap (-(c : Int) - (b.length : Int)) = -(c : Int) - (b.length : Int) := IntWalk.i64_in _ (by have := HA.out; omega)
        have k7 : IntKind.i64.wrap ((c : Int) - (b.length : Int)) = (c : Int) - (b.length : Int) := IntWalk.i64_in _ (by have := HA.out; omega)
        have HC0 := Lib.hid hc
        clear hc hkl hk hlt hki
        have hab := HA.out
        have habI : ((a.length : Nat) : Int) + ((b.length : Nat) : Int) ≤ 140737488353000 := by omega
        cases u with
        | true =>
          go_wp2_with fail
          rw [sv_cat]
          refine (stripped_any g (a ++ b) (-(c : Int) - (b.length : Int)) _ (by rw [List.length_append]; omega) (by have := HC0.out; omega)).mono ?_
          rintro x w' ⟨rfl, HB⟩
          have HS := Lib.hid (show stripD (g, a ++ b, (if true then -(capE e : Int) else (capE e : Int)) - b.length) = stripD (g, a ++ b, -(c : Int) - (b.length : Int)) by rw [HC.out]; rfl)
          have b2 := (HN.out).below HB (HN.out).lt
          have HBB := Lib.hid (keepb HN0.out HB)
          generalize stripD (g, a ++ b, -(c : Int) - (b.length : Int)) = d at *
          obtain ⟨g', t', x'⟩ := d
          have d0 := b2.cell 0
          have d1 := b2.cell 1
          have d2 := b2.cell 2
          have f0 := b2.frozen 0
          have f1 := b2.frozen 1
          have f2 := b2.frozen 2
          have HE := Lib.hid (((b2.set1 0 (.bool g')).set1 1 (sv t')).set1 2 (.int .i64 x'))
          clear b2 HB hab habI k5 k6 k7
          unfold decV sv
          go_simp
          repeat go_step
          have e0 := HE.out.cell 0
          have e1 := HE.out.cell 1
          have e2 := HE.out.cell 2
          exact bodyPost_ret (v := .agg #[.bool g', sv t', .int .i64 x']) (by simp [results, Tryz.results114, go_sem, e0, e1, e2]) rfl ⟨by have := HS.out; simp only [if_true, if_false, Bool.false_eq_true] at this ⊢; rw [this]; rfl, (((HBB.out.setCell (p := ⟨w.heap.size + 1, 0, none⟩) (by simp) _).setCell (p := ⟨w.heap.size + 1, 1, none⟩) (by simp) _).setCell (p := ⟨w.heap.size + 1, 2, none⟩) (by simp) _)⟩
        | false =>
          go_wp2_with fail
          rw [sv_cat]
          refine (stripped_any g (a ++ b) ((c : Int) - (b.length : Int)) _ (by rw [List.length_append]; omega) (by have := HC0.out; omega)).mono ?_
          rintro x w' ⟨rfl, HB⟩
          have HS := Lib.hid (show stripD (g, a ++ b, (if false then -(capE e : Int) else (capE e : Int)) - b.length) = stripD (g, a ++ b, (c : Int) - (b.length : Int)) by rw [HC.out]; rfl)
          have b2 := (HN.out).below HB (HN.out).lt
          have HBB := Lib.hid (keepb HN0.out HB)
          generalize stripD (g, a ++ b, (c : Int) - (b.length : Int)) = d at *
          generalize (c : Int) - (b.length : Int) = y at *
          obtain ⟨g', t', x'⟩ := d
          have d0 := b2.cell 0
          have d1 := b2.cell 1
          have d2 := b2.cell 2
          have f0 := b2.frozen 0
          have f1 := b2.frozen 1
          have f2 := b2.frozen 2
          have HE := Lib.hid (((b2.set1 0 (.bool g')).set1 1 (sv t')).set1 2 (.int .i64 x'))
          clear b2 HB hab habI k5 k6 k7
          unfold decV sv
          go_simp
          repeat go_step
          have e0 := HE.out.cell 0
          have e1 := HE.out.cell 1
          have e2 := HE.out.cell 2
          exact bodyPost_ret (v := .agg #[.bool g', sv t', .int .i64 x']) (by simp [results, Tryz.results114, go_sem, e0, e1, e2]) rfl ⟨by have := HS.out; simp only [if_true, if_false, Bool.false_eq_true] at this ⊢; rw [this]; rfl, (((HBB.out.setCell (p := ⟨w.heap.size + 1, 0, none⟩) (by simp) _).setCell (p := ⟨w.heap.size + 1, 1, none⟩) (by simp) _).setCell (p := ⟨w.heap.size + 1, 2, none⟩) (by simp) _)⟩
    · have u1 : decide (((k : Nat) : Int) < ((e.length : Nat) : Int)) = false := by simp; omega
      have u1' : decide (k < e.length) = false := by simpa using hge
      have HC := Lib.hid (show capE e = capE (e.take k) by rw [List.take_of_length_le hge])
      clear hge
      generalize capE (e.take k) = c at *
      have k5 : IntKind.i64.wrap (-(c : Int)) = -(c : Int) := IntWalk.i64_in _ (by omega)
      have k6 : IntKind.i64.wrap (-(c : Int) - (b.length : Int)) = -(c : Int) - (b.length : Int) := IntWalk.i64_in _ (by have := HA.out; omega)
      have k7 : IntKind.i64.wrap ((c : Int) - (b.length : Int)) = (c : Int) - (b.length : Int) := IntWalk.i64_in _ (by have := HA.out; omega)
      have HC0 := Lib.hid hc
      clear hc hkl hk
      have hab := HA.out
      have habI : ((a.length : Nat) : Int) + ((b.length : Nat) : Int) ≤ 140737488353000 := by omega
      cases u with
      | true =>
        go_wp2_with fail
        rw [sv_cat]
        refine (stripped_any g (a ++ b) (-(c : Int) - (b.length : Int)) _ (by rw [List.length_append]; omega) (by have := HC0.out; omega)).mono ?_
        rintro x w' ⟨rfl, HB⟩
        have HS := Lib.hid (show stripD (g, a ++ b, (if true then -(capE e : Int) else (capE e : Int)) - b.length) = stripD (g, a ++ b, -(c : Int) - (b.length : Int)) by rw [HC.out]; rfl)
        have b2 := (HN.out).below HB (HN.out).lt
        have HBB := Lib.hid (keepb HN0.out HB)
        generalize stripD (g, a ++ b, -(c : Int) - (b.length : Int)) = d at *
        obtain ⟨g', t', x'⟩ := d
        have d0 := b2.cell 0
        have d1 := b2.cell 1
        have d2 := b2.cell 2
        have f0 := b2.frozen 0
        have f1 := b2.frozen 1
        have f2 := b2.frozen 2
        have HE := Lib.hid (((b2.set1 0 (.bool g')).set1 1 (sv t')).set1 2 (.int .i64 x'))
        clear b2 HB hab habI k5 k6 k7
        unfold decV sv
        go_simp
        repeat go_step
        have e0 := HE.out.cell 0
        have e1 := HE.out.cell 1
        have e2 := HE.out.cell 2
        exact bodyPost_ret (v := .agg #[.bool g', sv t', .int .i64 x']) (by simp [results, Tryz.results114, go_sem, e0, e1, e2]) rfl ⟨by have := HS.out; simp only [if_true, if_false, Bool.false_eq_true] at this ⊢; rw [this]; rfl, (((HBB.out.setCell (p := ⟨w.heap.size + 1, 0, none⟩) (by simp) _).setCell (p := ⟨w.heap.size + 1, 1, none⟩) (by simp) _).setCell (p := ⟨w.heap.size + 1, 2, none⟩) (by simp) _)⟩
      | false =>
        go_wp2_with fail
        rw [sv_cat]
        refine (stripped_any g (a ++ b) ((c : Int) - (b.length : Int)) _ (by rw [List.length_append]; omega) (by have := HC0.out; omega)).mono ?_
        rintro x w' ⟨rfl, HB⟩
        have HS := Lib.hid (show stripD (g, a ++ b, (if false then -(capE e : Int) else (capE e : Int)) - b.length) = stripD (g, a ++ b, (c : Int) - (b.length : Int)) by rw [HC.out]; rfl)
        have b2 := (HN.out).below HB (HN.out).lt
        have HBB := Lib.hid (keepb HN0.out HB)
        generalize stripD (g, a ++ b, (c : Int) - (b.length : Int)) = d at *
        generalize (c : Int) - (b.length : Int) = y at *
        obtain ⟨g', t', x'⟩ := d
        have d0 := b2.cell 0
        have d1 := b2.cell 1
        have d2 := b2.cell 2
        have f0 := b2.frozen 0
        have f1 := b2.frozen 1
        have f2 := b2.frozen 2
        have HE := Lib.hid (((b2.set1 0 (.bool g')).set1 1 (sv t')).set1 2 (.int .i64 x'))
        clear b2 HB hab habI k5 k6 k7
        unfold decV sv
        go_simp
        repeat go_step
        have e0 := HE.out.cell 0
        have e1 := HE.out.cell 1
        have e2 := HE.out.cell 2
        exact bodyPost_ret (v := .agg #[.bool g', sv t', .int .i64 x']) (by simp [results, Tryz.results114, go_sem, e0, e1, e2]) rfl ⟨by have := HS.out; simp only [if_true, if_false, Bool.false_eq_true] at this ⊢; rw [this]; rfl, (((HBB.out.setCell (p := ⟨w.heap.size + 1, 0, none⟩) (by simp) _).setCell (p := ⟨w.heap.size + 1, 1, none⟩) (by simp) _).setCell (p := ⟨w.heap.size + 1, 2, none⟩) (by simp) _)⟩
end Go.Proofs.YtnajondbdeclmaaGreatDoor

namespace Go.Proofs.YtnajondbdeclmaaGreatDoor
set_option linter.unusedVariables false
set_option linter.unusedSimpArgs false

/-- A bare decimal of at most 801 digits that stands to all floats as the bare one does. -/
def shortD (d : Dm) : Dm := if 800 < d.2.1.length then (d.1, d.2.1.take 800 ++ [49], d.2.2 + d.2.1.length - 801) else d
def numD (d : Dm) : Nat := dval d.2.1 * 10 ^ d.2.2.toNat
def denD (d : Dm) : Nat := 10 ^ (-d.2.2).toNat
def topD (d : Dm) : Int := d.2.1.length + d.2.2
/-- A magnitude, cut: the float below it, how it stands to the half of the gap, whether it is that float. -/
def floorP (d : Dm) : Nat × Int × Bool :=
  if d.2.1 = [] then (0, 0, true) else if 310 < topD d then (most, 1, false) else if topD d < -330 then (0, -1, false) else cutP (numD (shortD d)) (denD (shortD d))
/-- Whether a cut magnitude is rounded up. -/
def upP (g : Bool) (c : Nat × Int × Bool) (way : Int) : Bool :=
  if way = 4 then g && !c.2.2 else if way = 5 then !g && !c.2.2 else if way = 1 then !(c.2.1 == 0 && c.1 % 2 == 0) && (decide (0 ≤ c.2.1) && !c.2.2) else if way = 2 then decide (0 ≤ c.2.1) && !c.2.2 else false
def endP (g : Bool) (b : Nat) : Option Nat := if most < b then none else some (if g && decide (0 < b) then b + 9223372036854775808 else b)
def roundC (g : Bool) (c : Nat × Int × Bool) (way : Int) : Option Nat := endP g (if upP g c way then c.1 + 1 else c.1)
/-- The bits to which a bare decimal rounds; none: beyond the finite floats. -/
def roundP (d : Dm) (way : Int) : Option Nat := roundC d.1 (floorP d) way

def nearP (x : Int) : Bool := decide (-1099511627776 ≤ x ∧ x ≤ 1099511627776)
def signP (d : Dm) : Int := if d.2.1 = [] then 0 else if d.1 then -1 else 1

/-- A bare decimal: digits, none of them a nought at an end; nought has none of anything. -/
def Bare (d : Dm) : Prop := (∀ c ∈ d.2.1, isD c = true) ∧ (d.2.1 = [] → d = (false, [], 0)) ∧ d.2.1.head? ≠ some 48 ∧ d.2.1.getLast? ≠ some 48

theorem noughtsL_mem {l : List UInt8} {c : UInt8} (h : c ∈ noughtsL l) : c ∈ l := (List.dropWhile_suffix _).subset h
theorem noughtsR_mem {l : List UInt8} {c : UInt8} (h : c ∈ noughtsR l) : c ∈ l := by
  unfold noughtsR at h
  rw [List.mem_reverse] at h
  exact List.mem_reverse.1 ((List.dropWhile_suffix _).subset h)
theorem dropW_head (l : List UInt8) : (l.dropWhile (· == 48)).head? ≠ some 48 := by
  induction l with
  | nil => simp
  | cons a l ih =>
    rw [List.dropWhile_cons]
    split
    · exact ih
    · rename_i h
      simpa using h
theorem noughtsL_head (l : List UInt8) : (noughtsL l).head? ≠ some 48 := dropW_head l
theorem noughtsR_last (l : List UInt8) : (noughtsR l).getLast? ≠ some 48 := by
  unfold noughtsR
  rw [List.getLast?_reverse]
  exact dropW_head _
theorem noughtsR_head {l : List UInt8} (h : noughtsR l ≠ []) : (noughtsR l).head? = l.head? := by
  unfold noughtsR at *
  have hs : (l.reverse.dropWhile (· == (48 : UInt8))).reverse <+: l := by
    have := List.dropWhile_suffix (l := l.reverse) (p := (· == (48 : UInt8)))
    rw [← List.reverse_prefix, List.reverse_reverse] at this
    exact this
  obtain ⟨t, ht⟩ := hs
  conv => rhs; rw [← ht]
  rw [List.head?_append]
  cases hh : (l.reverse.dropWhile (· == (48 : UInt8))).reverse with
  | nil => exact absurd hh h
  | cons a m => rfl
theorem stripD_bare (d : Dm) (h : ∀ c ∈ d.2.1, isD c = true) : Bare (stripD d) := by
  unfold stripD
  simp only
  split
  · exact ⟨fun c hc => by simp at hc, fun _ => rfl, by simp, by simp⟩
  · rename_i hne
    refine ⟨fun c hc => h c (noughtsL_mem (noughtsR_mem hc)), fun h0 => absurd h0 hne, ?_, noughtsR_last _⟩
    simp only
    rw [noughtsR_head hne]
    exact noughtsL_head _
theorem cutL_mem {s : List UInt8} {i k : Nat} {c : UInt8} (h : c ∈ cutL s i k) : ∃ j, i ≤ j ∧ j < k ∧ s[j]? = some c := by
  unfold cutL at h
  obtain ⟨n, hn⟩ := List.mem_iff_getElem?.1 h
  rw [List.getElem?_take] at hn
  split at hn
  · rw [List.getElem?_drop] at hn
    exact ⟨i + n, by omega, by omega, hn⟩
  · cases hn
theorem ov_digits {s : List UInt8} {i : Nat} : ∀ c ∈ cutL s i (ov s i), isD c = true := by
  intro c hc
  obtain ⟨j, h1, h2, h3⟩ := cutL_mem hc
  have := dAt_mid h1 h2
  unfold dAt at this
  rw [h3] at this
  exact this
theorem wholeP_digits (s : List UInt8) : ∀ c ∈ wholeP s, isD c = true := by
  intro c hc
  unfold wholeP p1 at hc
  split at hc
  · rename_i h
    obtain ⟨j, h1, h2, h3⟩ := cutL_mem hc
    obtain rfl : j = p0 s := by omega
    rw [h] at h3
    injection h3 with h3
    subst h3
    decide
  · exact ov_digits c hc
theorem behindP_digits (s : List UInt8) : ∀ c ∈ behindP s, isD c = true := by
  intro c hc
  unfold behindP at hc
  split at hc
  · rename_i h
    unfold p2 at hc
    rw [if_pos h] at hc
    exact ov_digits c hc
  · cases hc
theorem expP_digits (s : List UInt8) : ∀ c ∈ expP s, isD c = true := by
  intro c hc
  unfold expP at hc
  split at hc
  · rename_i h
    unfold p4 at hc
    rw [if_pos h] at hc
    exact ov_digits c hc
  · cases hc
theorem cutL_len (s : List UInt8) (i k : Nat) : (cutL s i k).length ≤ k - i ∧ (cutL s i k).length ≤ s.length - i := by
  unfold cutL
  rw [List.length_take, List.length_drop]
  omega
theorem parts_len (s : List UInt8) : (wholeP s).length + (behindP s).length ≤ s.length ∧ (expP s).length ≤ s.length := by
  have h1 : (wholeP s).length ≤ p1 s := by have := cutL_len s (p0 s) (p1 s); unfold wholeP; omega
  have h2 : (behindP s).length ≤ s.length - p1 s := by
    unfold behindP
    split
    · have := cutL_len s (p1 s + 1) (p2 s); omega
    · simp
  have h3 := p1_le (s := s)
  have h4 : (expP s).length ≤ s.length := by
    unfold expP
    split
    · have := cutL_len s (p3 s) (p4 s); omega
    · simp
  exact ⟨by omega, h4⟩
theorem bareP_bare (s : List UInt8) : Bare (bareP s) := stripD_bare _ fun c hc => by
  simp only [List.mem_append] at hc
  rcases hc with hc | hc
  · exact wholeP_digits s c hc
  · exact behindP_digits s c hc
theorem stripD_len (d : Dm) (B : Int) (hB : 0 ≤ B) (h1 : -B ≤ d.2.2) (h2 : d.2.2 ≤ B) : (stripD d).2.1.length ≤ d.2.1.length ∧ -B ≤ (stripD d).2.2 ∧ (stripD d).2.2 ≤ B + d.2.1.length := by
  have h1 : (noughtsL d.2.1).length ≤ d.2.1.length := (List.dropWhile_suffix _).length_le
  have h2 : (noughtsR (noughtsL d.2.1)).length ≤ (noughtsL d.2.1).length := by
    unfold noughtsR
    rw [List.length_reverse]
    have := (List.dropWhile_suffix (p := (· == (48 : UInt8))) (l := (noughtsL d.2.1).reverse)).length_le
    rw [List.length_reverse] at this
    exact this
  unfold stripD
  simp only
  split
  · simp only [List.length_nil]; omega
  · simp only; omega
theorem bareP_len (s : List UInt8) : (bareP s).2.1.length ≤ s.length ∧ -(400000000000000 + s.length : Int) ≤ (bareP s).2.2 ∧ (bareP s).2.2 ≤ 400000000000000 + 2 * s.length := by
  have h1 := parts_len s
  have h2 := capE_lt (expP s) (expP_digits s)
  unfold farE at h2
  have h3 := stripD_len (negP s, wholeP s ++ behindP s, (if underP s then -(capE (expP s) : Int) else (capE (expP s) : Int)) - (behindP s).length) (400000000000000 + (behindP s).length) (by omega)
    (by simp only; split <;> omega) (by simp only; split <;> omega)
  unfold bareP
  simp only [List.length_append] at h3
  omega
end Go.Proofs.YtnajondbdeclmaaGreatDoor

namespace Go.Proofs.YtnajondbdeclmaaGreatDoor
set_option linter.unusedVariables false
set_option linter.unusedSimpArgs false

theorem pow10 (k : Nat) : 0 < 10 ^ k := Nat.pow_pos (by omega)
theorem pow10_mono {a b : Nat} (h : a ≤ b) : 10 ^ a ≤ 10 ^ b := Nat.pow_le_pow_right (by omega) h
theorem denD_pos (d : Dm) : 0 < denD d := pow10 _
/-- Digits without a nought ahead. -/
def Lead (l : List UInt8) : Prop := (∀ c ∈ l, isD c = true) ∧ l ≠ [] ∧ l.getD 0 0 ≠ 48
theorem Bare.lead {d : Dm} (h : Bare d) (h0 : d.2.1 ≠ []) : Lead d.2.1 := by
  refine ⟨h.1, h0, ?_⟩
  have h1 := h.2.2.1
  cases hl : d.2.1 with
  | nil => exact absurd hl h0
  | cons a l => rw [hl] at h1; simpa using h1
theorem Lead.ge {l : List UInt8} (h : Lead l) : 10 ^ (l.length - 1) ≤ dval l := dval_ge l h.1 h.2.1 h.2.2
theorem Lead.lt {l : List UInt8} (h : Lead l) : dval l < 10 ^ l.length := dval_lt l h.1
theorem Lead.len {l : List UInt8} (h : Lead l) : 0 < l.length := List.length_pos_iff.2 h.2.1
theorem shortD_lead {d : Dm} (h : Lead d.2.1) : Lead (shortD d).2.1 := by
  unfold shortD
  split
  · rename_i hl
    refine ⟨fun c hc => ?_, by simp, ?_⟩
    · simp only [List.mem_append, List.mem_singleton] at hc
      rcases hc with hc | hc
      · exact h.1 c (List.mem_of_mem_take hc)
      · rw [hc]; decide
    · have h1 := h.2.2
      obtain ⟨a, l, hal⟩ : ∃ a l, d.2.1 = a :: l := by
        cases hh : d.2.1 with
        | nil => exact absurd hh h.2.1
        | cons a l => exact ⟨a, l, rfl⟩
      rw [hal] at h1 ⊢
      simpa using h1
  · exact h
theorem shortD_top (d : Dm) : topD (shortD d) = topD d := by
  unfold shortD topD
  split
  · simp only [List.length_append, List.length_take, List.length_singleton]; omega
  · rfl
theorem shortD_neg (d : Dm) : (shortD d).1 = d.1 := by unfold shortD; split <;> rfl
theorem shortD_len (d : Dm) : (shortD d).2.1.length ≤ 801 := by
  unfold shortD
  split
  · simp only [List.length_append, List.length_take, List.length_singleton]; omega
  · omega

theorem mag_ge {d : Dm} (h : Lead d.2.1) (k : Nat) (hk : (k : Int) + 1 ≤ topD d) : 10 ^ k * denD d ≤ numD d := by
  have h1 := h.ge
  have h2 := h.len
  unfold numD denD
  unfold topD at hk
  refine Nat.le_trans ?_ (Nat.mul_le_mul_right _ h1)
  rw [← Nat.pow_add, ← Nat.pow_add]
  exact pow10_mono (by omega)
theorem mag_lt {d : Dm} (h : Lead d.2.1) (k : Nat) (hk : topD d ≤ (k : Int)) : numD d < 10 ^ k * denD d := by
  have h1 := h.lt
  unfold numD denD
  unfold topD at hk
  refine Nat.lt_of_lt_of_le (Nat.mul_lt_mul_of_pos_right h1 (pow10 _)) ?_
  rw [← Nat.pow_add, ← Nat.pow_add]
  exact pow10_mono (by omega)
theorem mag_small {d : Dm} (h : Lead d.2.1) (k : Nat) (hk : topD d ≤ -(k : Int)) : numD d * 10 ^ k < denD d := by
  have h1 := h.lt
  unfold numD denD
  unfold topD at hk
  rw [Nat.mul_assoc]
  refine Nat.lt_of_lt_of_le (Nat.mul_lt_mul_of_pos_right h1 (Nat.mul_pos (pow10 _) (pow10 _))) ?_
  rw [← Nat.pow_add, ← Nat.pow_add]
  exact pow10_mono (by omega)
theorem mag_pos {d : Dm} (h : Lead d.2.1) : 0 < numD d := by
  unfold numD
  exact Nat.mul_pos (Nat.lt_of_lt_of_le (pow10 _) h.ge) (pow10 _)

theorem Fl_over (k n : Nat) (hk : k = 310) (hn : n = 1074) : Fl (most + 1) ≤ 10 ^ k * 2 ^ n := by subst hk hn; decide +kernel
theorem tiny (k n : Nat) (hk : k = 330) (hn : n = 1074) : 2 * 2 ^ n ≤ 10 ^ k := by subst hk hn; decide +kernel
theorem great_aux {A B C X F : Nat} (hF : F ≤ C * X) (h : C * B ≤ A) : F * B ≤ A * X :=
  Nat.le_trans (Nat.mul_le_mul_right B hF) (by rw [Nat.mul_right_comm]; exact Nat.mul_le_mul_right X h)
theorem tiny_aux {A B C X : Nat} (hX : 2 * X ≤ C) (h : A * C < B) : 2 * (A * X) < B := by
  refine Nat.lt_of_le_of_lt ?_ h
  rw [← Nat.mul_assoc, Nat.mul_comm 2 A, Nat.mul_assoc]
  exact Nat.mul_le_mul_left _ hX
theorem cutP_great {A B k : Nat} (hk : k = 310) (hB : 0 < B) (h : 10 ^ k * B ≤ A) : cutP A B = (most, 1, false) := by
  obtain ⟨n, hn⟩ : ∃ n, n = 1074 := ⟨_, rfl⟩
  have h1 : most < flT (A * 2 ^ n / B) := flT_iff.2 ((Nat.le_div_iff_mul_le hB).2 (great_aux (Fl_over k n hk hn) h))
  subst hn
  exact cutP_over hB h1
theorem cutP_tiny' {A B X n : Nat} (hn : n = 1074) (hX : X = 2 ^ n) (hA : 0 < A) (h1 : 2 * (A * X) < B) : cutP A B = (0, -1, false) := by
  have hXp : 0 < X := by rw [hX]; exact Nat.pow_pos (by omega)
  have h2 : A * X / B = 0 := Nat.div_eq_of_lt (by omega)
  have hN : 0 < A * X := Nat.mul_pos hA hXp
  have e0 : Fl 0 = 0 := rfl
  have e1 : Fl (0 + 1) = 1 := rfl
  have hb : min (flT (A * X / B)) most = 0 := by rw [h2]; rfl
  have hc : (min (flT (A * X / B)) most, cmpI (2 * (A * X)) ((Fl (min (flT (A * X / B)) most) + Fl (min (flT (A * X / B)) most + 1)) * B), decide (Fl (min (flT (A * X / B)) most) * B = A * X)) = ((0 : Nat), (-1 : Int), false) := by
    rw [hb, e0, e1]
    rw [cmpI_lt (by omega), decide_eq_false (by omega)]
  subst hn
  rw [hX] at hc
  exact hc
theorem cutP_tiny {A B k : Nat} (hk : k = 330) (hA : 0 < A) (h : A * 10 ^ k < B) : cutP A B = (0, -1, false) := by
  obtain ⟨n, hn⟩ : ∃ n, n = 1074 := ⟨_, rfl⟩
  exact cutP_tiny' hn rfl hA (tiny_aux (tiny k n hk hn) h)
theorem floorP_cut {d : Dm} (h : Lead d.2.1) : floorP d = cutP (numD (shortD d)) (denD (shortD d)) := by
  have hs := shortD_lead h
  have ht := shortD_top d
  unfold floorP
  rw [if_neg h.2.1]
  split
  · rename_i h1
    obtain ⟨k, hk⟩ : ∃ k, k = 310 := ⟨_, rfl⟩
    exact (cutP_great hk (denD_pos _) (mag_ge hs k (by omega))).symm
  · split
    · rename_i h2
      obtain ⟨k, hk⟩ : ∃ k, k = 330 := ⟨_, rfl⟩
      exact (cutP_tiny hk (mag_pos hs) (mag_small hs k (by omega))).symm
    · rfl
end Go.Proofs.YtnajondbdeclmaaGreatDoor

namespace Go.Proofs.YtnajondbdeclmaaGreatDoor
set_option linter.unusedVariables false
set_option linter.unusedSimpArgs false

theorem cutB_mono {A B C D : Nat} (hB : 0 < B) (hD : 0 < D) (h : A * D ≤ C * B) : cutB A B ≤ cutB C D := by
  have h1 : A * 2 ^ 1074 / B ≤ C * 2 ^ 1074 / D := by
    rw [Nat.le_div_iff_mul_le hD]
    generalize 2 ^ 1074 = X
    have h2 := Nat.div_mul_le_self (A * X) B
    generalize A * X / B = q at *
    have h3 : q * D * B ≤ C * X * B := by
      calc q * D * B = q * B * D := Nat.mul_right_comm _ _ _
        _ ≤ A * X * D := Nat.mul_le_mul_right _ h2
        _ = A * D * X := Nat.mul_right_comm _ _ _
        _ ≤ C * B * X := Nat.mul_le_mul_right _ h
        _ = C * X * B := Nat.mul_right_comm _ _ _
    exact Nat.le_of_mul_le_mul_right h3 hB
  have h4 : flT (A * 2 ^ 1074 / B) ≤ flT (C * 2 ^ 1074 / D) := flT_iff.2 (Nat.le_trans (flT_le _) h1)
  unfold cutB
  omega
/-- How two quotients stand to a number is told alike. -/
theorem quot_lt {A B C D y X : Nat} (hD : 0 < D) (h : A * D ≤ C * B) (h1 : y * B < A * X) : y * D < C * X := by
  have h3 : y * D * B < C * X * B := by
    calc y * D * B = y * B * D := Nat.mul_right_comm _ _ _
      _ < A * X * D := Nat.mul_lt_mul_of_pos_right h1 hD
      _ = A * D * X := Nat.mul_right_comm _ _ _
      _ ≤ C * B * X := Nat.mul_le_mul_right _ h
      _ = C * X * B := Nat.mul_right_comm _ _ _
  exact Nat.lt_of_mul_lt_mul_right h3
theorem quot_le {A B C D y X : Nat} (hB : 0 < B) (h : A * D ≤ C * B) (h1 : y * B ≤ A * X) : y * D ≤ C * X := by
  have h3 : y * D * B ≤ C * X * B := by
    calc y * D * B = y * B * D := Nat.mul_right_comm _ _ _
      _ ≤ A * X * D := Nat.mul_le_mul_right _ h1
      _ = A * D * X := Nat.mul_right_comm _ _ _
      _ ≤ C * B * X := Nat.mul_le_mul_right _ h
      _ = C * X * B := Nat.mul_right_comm _ _ _
  exact Nat.le_of_mul_le_mul_right h3 hB
theorem cut_le (A B : Nat) (hB : 0 < B) : Fl (cutB A B) * B ≤ A * 2 ^ 1074 := by
  rw [← Nat.le_div_iff_mul_le hB]
  refine flT_iff.1 ?_
  unfold cutB
  omega
theorem cut_lt (A B : Nat) (hB : 0 < B) (h : cutB A B < most) : A * 2 ^ 1074 < Fl (cutB A B + 1) * B := by
  have h1 : cutB A B = flT (A * 2 ^ 1074 / B) := by unfold cutB at *; omega
  rw [h1]
  have := flT_lt (A * 2 ^ 1074 / B)
  rwa [Nat.div_lt_iff_lt_mul hB] at this
theorem half_mono {A B C D F : Nat} (hB : 0 < B) (hD : 0 < D) (h : A * D ≤ C * B) : cmpI (2 * (A * 2 ^ 1074)) (F * B) ≤ cmpI (2 * (C * 2 ^ 1074)) (F * D) := by
  have e1 : 2 * (A * 2 ^ 1074) = A * (2 * 2 ^ 1074) := Nat.mul_left_comm _ _ _
  have e2 : 2 * (C * 2 ^ 1074) = C * (2 * 2 ^ 1074) := Nat.mul_left_comm _ _ _
  rw [e1, e2]
  generalize 2 * 2 ^ 1074 = Y
  rcases Nat.lt_trichotomy (A * Y) (F * B) with k | k | k
  · rw [cmpI_lt k]
    rcases cmpI_range (C * Y) (F * D) with r | r | r <;> rw [r] <;> decide
  · rw [k, cmpI_eq]
    have := quot_le hB h (Nat.le_of_eq k.symm)
    unfold cmpI
    rw [if_neg (show ¬ C * Y < F * D by omega)]
    split <;> decide
  · rw [cmpI_gt k, cmpI_gt (quot_lt hD h k)]; decide
theorem up_mono {g : Bool} {b : Nat} {h1 h2 : Int} {x1 x2 : Bool} {way : Int} (hh : h1 ≤ h2) (h2r : h2 ≤ 1) (hx : x1 = false → x2 = false) (h : upP g (b, h1, x1) way = true) : upP g (b, h2, x2) way = true := by
  unfold upP at h ⊢
  simp only at h ⊢
  cases x1 with
  | true => simp at h
  | false =>
    rw [hx rfl]
    split at h
    · rename_i h4; rw [if_pos h4]; exact h
    · rename_i h4
      rw [if_neg h4]
      split at h
      · rename_i h5; rw [if_pos h5]; exact h
      · rename_i h5
        rw [if_neg h5]
        split at h
        · rename_i h6
          rw [if_pos h6]
          simp only [Bool.not_false, Bool.and_true, Bool.and_eq_true, Bool.not_eq_true', Bool.and_eq_false_iff, beq_eq_false_iff_ne, decide_eq_true_eq] at h ⊢
          refine ⟨?_, by omega⟩
          rcases h.1 with k | k
          · left; omega
          · right; exact k
        · rename_i h6
          rw [if_neg h6]
          split at h
          · rename_i h7
            rw [if_pos h7]
            simp only [Bool.not_false, Bool.and_true, decide_eq_true_eq] at h ⊢
            omega
          · cases h
/-- A quotient, rounded, before it is held against the greatest float. -/
def upB (g : Bool) (A B : Nat) (way : Int) : Nat := if upP g (cutP A B) way then cutB A B + 1 else cutB A B
theorem upB_ge (g : Bool) (A B : Nat) (way : Int) : cutB A B ≤ upB g A B way ∧ upB g A B way ≤ cutB A B + 1 := by unfold upB; split <;> omega
theorem upB_mono {A B C D : Nat} (g : Bool) (way : Int) (hB : 0 < B) (hD : 0 < D) (h : A * D ≤ C * B) : upB g A B way ≤ upB g C D way := by
  have h1 := cutB_mono hB hD h
  have h2 := upB_ge g A B way
  have h3 := upB_ge g C D way
  rcases Nat.lt_or_ge (cutB A B) (cutB C D) with k | k
  · omega
  · have he : cutB C D = cutB A B := by omega
    have key : upP g (cutP A B) way = true → upP g (cutP C D) way = true := by
      unfold cutP
      rw [he]
      intro hu
      refine up_mono (half_mono hB hD h) ?_ ?_ hu
      · rcases cmpI_range (2 * (C * 2 ^ 1074)) ((Fl (cutB A B) + Fl (cutB A B + 1)) * D) with r | r | r <;> rw [r] <;> decide
      · intro hx
        simp only [decide_eq_false_iff_not] at hx ⊢
        have := cut_le A B hB
        have := quot_lt hD h (show Fl (cutB A B) * B < A * 2 ^ 1074 by omega)
        omega
    unfold upB
    split
    · rename_i hu; rw [if_pos (key hu), he]; exact Nat.le_refl _
    · split <;> omega
end Go.Proofs.YtnajondbdeclmaaGreatDoor

namespace Go.Proofs.YtnajondbdeclmaaGreatDoor
open Go.RowKit
set_option linter.unusedSimpArgs false
set_option linter.unusedVariables false

theorem Blk.three {w : World} {b : Nat} {t : TypeId} {x y z : Value} (h : Blk w b t #[x, y, z]) :
    w.cell? ⟨b, 0, none⟩ = some x ∧ w.cell? ⟨b, 1, none⟩ = some y ∧ w.cell? ⟨b, 2, none⟩ = some z ∧ w.frozen? ⟨b, 0, none⟩ = false ∧ w.frozen? ⟨b, 1, none⟩ = false ∧ w.frozen? ⟨b, 2, none⟩ = false :=
  ⟨h.cell 0, h.cell 1, h.cell 2, h.frozen 0, h.frozen 1, h.frozen 2⟩
theorem Blk.put3 {w : World} {b : Nat} {t : TypeId} {x y z : Value} (h : Blk w b t #[x, y, z]) (u v r : Value) :
    (((w.setCell ⟨b, 0, none⟩ u).setCell ⟨b, 1, none⟩ v).setCell ⟨b, 2, none⟩ r).cell? ⟨b, 0, none⟩ = some u ∧
    (((w.setCell ⟨b, 0, none⟩ u).setCell ⟨b, 1, none⟩ v).setCell ⟨b, 2, none⟩ r).cell? ⟨b, 1, none⟩ = some v ∧
    (((w.setCell ⟨b, 0, none⟩ u).setCell ⟨b, 1, none⟩ v).setCell ⟨b, 2, none⟩ r).cell? ⟨b, 2, none⟩ = some r :=
  ⟨(((h.set1 0 u).set1 1 v).set1 2 r).cell 0, (((h.set1 0 u).set1 1 v).set1 2 r).cell 1, (((h.set1 0 u).set1 1 v).set1 2 r).cell 2⟩
theorem below_put3 {w W : World} {b : Nat} (h : Below w.heap.size w W) (hb : w.heap.size ≤ b) (u v r : Value) : Below w.heap.size w (((W.setCell ⟨b, 0, none⟩ u).setCell ⟨b, 1, none⟩ v).setCell ⟨b, 2, none⟩ r) :=
  ((h.setCell (p := ⟨b, 0, none⟩) hb _).setCell (p := ⟨b, 1, none⟩) hb _).setCell (p := ⟨b, 2, none⟩) hb _

/-- What parsed answers. -/
def parsedV (s : List UInt8) : Value := match wrongP s with
  | some q => .tuple #[decV (false, [], 0), spotV 40 (q : Nat)]
  | none => .tuple #[decV (bareP s), .nilIface]
theorem wrongP_le {s : List UInt8} {q : Nat} (h : wrongP s = some q) : q ≤ s.length := by
  unfold wrongP at h
  split at h
  · injection h with h; rw [← h]; exact p0_le
  · split at h
    · rename_i h1; injection h with h; rw [← h]; exact pt_lt h1.1
    · split at h
      · rename_i h1; injection h with h; rw [← h]; exact p3_le h1.1
      · split at h
        · injection h with h; omega
        · cases h

set_option maxRecDepth 100000 in
theorem parsed_any (s : List UInt8) (w : World) (hs : s.length ≤ 140737488353000) :
    Calls Tryz.prog 79 #[sv s] w fun e w' => e = .returned (parsedV s) ∧ Below w.heap.size w w' := by
  have HR := Lib.hid (fun W => read_any s W hs)
  have hb0 : Below w.heap.size w (w.alloc (.cells #[.bool false, .string ⟨#[]⟩, .int .i64 0] 102)) := (Below.refl _ w).alloc (Nat.le_refl _) _
  have HK0 := Lib.hid (Blk.new w 102 #[.bool false, .string ⟨#[]⟩, .int .i64 0])
  have HB0 := Lib.hid hb0
  clear hb0
  cases hw : wrongP s with
  | some q =>
    have hq := wrongP_le hw
    have HV := Lib.hid (show litV s = .tuple #[.agg #[.bool false, .string ⟨#[]⟩, .string ⟨#[]⟩, .bool false, .string ⟨#[]⟩], .int .i64 (q : Nat)] by unfold litV; rw [hw])
    have HP := Lib.hid (show parsedV s = .tuple #[.agg #[.bool false, .string ⟨#[]⟩, .int .i64 0], spotV 40 (q : Nat)] by unfold parsedV; rw [hw]; rfl)
    rw [HV.out] at HR
    clear hw hq hs
    have hq0 : (0 : Int) ≤ (q : Int) := by omega
    go_enter Tryz.func79, Tryz.ntmps79
    go_wp2_with fail
    refine (HR.out _).mono ?_
    rintro e w1 ⟨rfl, hb1⟩
    have HK1 := Lib.hid ((HK0.out.below hb1 HK0.out.lt).alloc (.cells #[.bool false, .string ⟨#[]⟩, .string ⟨#[]⟩, .bool false, .string ⟨#[]⟩] 144))
    have HB1 := Lib.hid ((keepb HB0.out hb1).alloc (keepb HB0.out hb1).size (.cells #[.bool false, .string ⟨#[]⟩, .string ⟨#[]⟩, .bool false, .string ⟨#[]⟩] 144))
    obtain ⟨c0, c1, c2, f0, f1, f2⟩ := HK1.out.three
    clear hb1
    go_wp2_with fail
    obtain ⟨e0, e1, e2⟩ := HK1.out.put3 (.bool false) (.string ⟨#[]⟩) (.int .i64 0)
    exact bodyPost_ret (v := .tuple #[.agg #[.bool false, .string ⟨#[]⟩, .int .i64 0], spotV 40 (q : Nat)]) (by simp [results, Tryz.results79, go_sem, e0, e1, e2]) rfl ⟨by rw [HP.out], below_put3 HB1.out (Nat.le_refl _) _ _ _⟩
  | none =>
    have hl := parts_len s
    have HV := Lib.hid (show litV s = .tuple #[.agg #[.bool (negP s), sv (wholeP s), sv (behindP s), .bool (underP s), sv (expP s)], .int .i64 (-1)] by unfold litV; rw [hw])
    have HP := Lib.hid (show parsedV s = .tuple #[decV (bareP s), .nilIface] by unfold parsedV; rw [hw])
    have HQ := Lib.hid (fun W => bare_any (negP s) (underP s) (wholeP s) (behindP s) (expP s) W (by omega) (by omega) (expP_digits s))
    have hbr : stripD (negP s, wholeP s ++ behindP s, (if underP s then -(capE (expP s) : Int) else (capE (expP s) : Int)) - (behindP s).length) = bareP s := rfl
    rw [hbr] at HQ
    rw [HV.out] at HR
    clear hw hs hl hbr
    generalize negP s = g at *
    generalize underP s = u at *
    generalize wholeP s = a at *
    generalize behindP s = b at *
    generalize expP s = x at *
    generalize bareP s = d at *
    obtain ⟨g', t', x'⟩ := d
    unfold decV sv at *
    go_enter Tryz.func79, Tryz.ntmps79
    go_wp2_with fail
    refine (HR.out _).mono ?_
    rintro e w1 ⟨rfl, hb1⟩
    have HK1 := Lib.hid ((HK0.out.below hb1 HK0.out.lt).alloc (.cells #[.bool g, .string ⟨a.toArray⟩, .string ⟨b.toArray⟩, .bool u, .string ⟨x.toArray⟩] 144))
    have HB1 := Lib.hid ((keepb HB0.out hb1).alloc (keepb HB0.out hb1).size (.cells #[.bool g, .string ⟨a.toArray⟩, .string ⟨b.toArray⟩, .bool u, .string ⟨x.toArray⟩] 144))
    clear hb1
    go_wp2_with fail
    refine (HQ.out _).mono ?_
    rintro e w2 ⟨rfl, hb2⟩
    have HK2 := Lib.hid (HK1.out.below hb2 HK1.out.lt)
    have HB2 := Lib.hid (keepb HB1.out hb2)
    obtain ⟨c0, c1, c2, f0, f1, f2⟩ := HK2.out.three
    clear hb2
    go_simp
    repeat go_step
    obtain ⟨e0, e1, e2⟩ := HK2.out.put3 (.bool g') (.string ⟨t'.toArray⟩) (.int .i64 x')
    exact bodyPost_ret (v := .tuple #[.agg #[.bool g', .string ⟨t'.toArray⟩, .int .i64 x'], .nilIface]) (by simp [results, Tryz.results79, go_sem, e0, e1, e2]) rfl ⟨by rw [HP.out], below_put3 HB2.out (Nat.le_refl _) _ _ _⟩
end Go.Proofs.YtnajondbdeclmaaGreatDoor

namespace Go.Proofs.YtnajondbdeclmaaGreatDoor
open Go.RowKit
set_option linter.unusedSimpArgs false
set_option linter.unusedVariables false

def checkV (s : List UInt8) : Value := match wrongP s with
  | some q => spotV 40 (q : Nat)
  | none => .nilIface
theorem near_any (x : Int) (w : World) :
    Calls Tryz.prog 87 #[.int .i64 x] w fun e w' => e = .returned (.bool (nearP x)) ∧ w = w' := by
  by_cases h1 : -1099511627776 ≤ x
  · by_cases h2 : x ≤ 1099511627776
    · have h : nearP x = true := by unfold nearP; simp; omega
      rw [h]
      have t1 : decide (-1099511627776 ≤ x) = true := by simp; omega
      have t2 : decide (x ≤ 1099511627776) = true := by simp; omega
      clear h1 h2 h
      go_enter Tryz.func87, Tryz.ntmps87
      go_wp2
      go_ret
      exact ⟨rfl, rfl⟩
    · have h : nearP x = false := by unfold nearP; simp; omega
      rw [h]
      have t1 : decide (-1099511627776 ≤ x) = true := by simp; omega
      have t2 : decide (x ≤ 1099511627776) = false := by simp; omega
      clear h1 h2 h
      go_enter Tryz.func87, Tryz.ntmps87
      go_wp2
      go_ret
      exact ⟨rfl, rfl⟩
  · have h : nearP x = false := by unfold nearP; simp; omega
    rw [h]
    have t1 : decide (-1099511627776 ≤ x) = false := by simp; omega
    clear h1 h
    go_enter Tryz.func87, Tryz.ntmps87
    go_wp2
    go_ret
    exact ⟨rfl, rfl⟩

set_option maxRecDepth 100000 in
theorem sign_any (d : Dm) (w : World) :
    Calls Tryz.prog 80 #[decV d] w fun e w' => e = .returned (.int .i64 (signP d)) ∧ Below w.heap.size w w' := by
  obtain ⟨g, l, x⟩ := d
  unfold decV sv
  by_cases hl : l = []
  · have HP := Lib.hid (show signP (g, l, x) = 0 by unfold signP; rw [if_pos hl])
    have ke : l.isEmpty = true := by rw [hl]; rfl
    have ke2 : ((⟨l.toArray⟩ : ByteArray) == ⟨#[]⟩) = true := by rw [hl]; rfl
    clear hl
    go_enter Tryz.func80, Tryz.ntmps80
    go_wp2
    go_ret
    exact ⟨by rw [HP.out] <;> rfl, by go_grown⟩
  · have ke : l.isEmpty = false := by cases l with
      | nil => exact absurd rfl hl
      | cons a l => rfl
    have ke2 : ((⟨l.toArray⟩ : ByteArray) == ⟨#[]⟩) = false := by rw [sv_empty]; simpa using hl
    cases g with
    | true =>
      have HP := Lib.hid (show signP (true, l, x) = -1 by unfold signP; rw [if_neg hl]; rfl)
      clear hl
      go_enter Tryz.func80, Tryz.ntmps80
      go_wp2
      go_ret
      exact ⟨by rw [HP.out] <;> rfl, by go_grown⟩
    | false =>
      have HP := Lib.hid (show signP (false, l, x) = 1 by unfold signP; rw [if_neg hl]; rfl)
      clear hl
      go_enter Tryz.func80, Tryz.ntmps80
      go_wp2
      go_ret
      exact ⟨by rw [HP.out] <;> rfl, by go_grown⟩

/-- How two bare decimals' magnitudes stand. -/
def magP (d e : Dm) : Int := if topD d < topD e then -1 else if topD e < topD d then 1 else Lib.compareBytes d.2.1 e.2.1
theorem cmpB_range : ∀ (a b : List UInt8), Lib.compareBytes a b = -1 ∨ Lib.compareBytes a b = 0 ∨ Lib.compareBytes a b = 1
  | [], [] => .inr (.inl rfl)
  | [], _ :: _ => .inl rfl
  | _ :: _, [] => .inr (.inr rfl)
  | x :: a, y :: b => by
    unfold Lib.compareBytes
    split
    · exact .inl rfl
    · split
      · exact .inr (.inr rfl)
      · exact cmpB_range a b
theorem magP_range (d e : Dm) : magP d e = -1 ∨ magP d e = 0 ∨ magP d e = 1 := by
  unfold magP
  split
  · exact .inl rfl
  · split
    · exact .inr (.inr rfl)
    · exact cmpB_range _ _

set_option maxRecDepth 100000 in
theorem magnitudes_any (d e : Dm) (w : World) (hd : d.2.1.length ≤ 140737488353000) (he : e.2.1.length ≤ 140737488353000) (xd : nearP d.2.2 = true) (xe : nearP e.2.2 = true) :
    Calls Tryz.prog 88 #[decV d, decV e] w fun r w' => r = .returned (.int .i64 (magP d e)) ∧ Below w.heap.size w w' := by
  obtain ⟨g, l, x⟩ := d
  obtain ⟨h, m, y⟩ := e
  simp only [nearP, decide_eq_true_eq] at hd he xd xe
  have HC := Lib.hid (fun W => Tryz.strings_Compare ⟨l.toArray⟩ ⟨m.toArray⟩ W)
  have HP : magP (g, l, x) (h, m, y) = if (l.length : Int) + x < (m.length : Int) + y then -1 else if (m.length : Int) + y < (l.length : Int) + x then 1 else Lib.compareBytes l m := rfl
  simp only [List.toList_toArray] at HC
  generalize Lib.compareBytes l m = c at *
  have hln : ((l.length : Nat) : Int) ≤ 140737488353000 := by omega
  have hmn : ((m.length : Nat) : Int) ≤ 140737488353000 := by omega
  clear hd he
  obtain ⟨u, hu⟩ : ∃ u : Int, (l.length : Int) + x = u := ⟨_, rfl⟩
  obtain ⟨v, hv⟩ : ∃ v : Int, (m.length : Int) + y = v := ⟨_, rfl⟩
  have k1 : IntKind.i64.wrap ((l.length : Int) + x) = u := by rw [IntWalk.i64_in _ (by omega)]; exact hu
  have k2 : IntKind.i64.wrap ((m.length : Int) + y) = v := by rw [IntWalk.i64_in _ (by omega)]; exact hv
  rw [hu, hv] at HP
  clear hln hmn xd xe hu hv
  unfold decV sv
  rcases Int.lt_trichotomy u v with ho | ho | ho
  · rw [if_pos ho] at HP
    have HPP := Lib.hid HP
    clear HP
    have t1 : decide (u < v) = true := by simpa using ho
    clear ho
    go_enter Tryz.func88, Tryz.ntmps88
    go_wp2_with fail
    go_quiet (fail)
    go_wp2_with fail
    go_ret
    exact ⟨by rw [HPP.out] <;> rfl, below_drewN (by go_grown) _⟩
  · rw [if_neg (by omega), if_neg (by omega)] at HP
    have HPP := Lib.hid HP
    clear HP
    subst ho
    have t1 : decide (u < u) = false := by simp
    go_enter Tryz.func88, Tryz.ntmps88
    go_wp2_with fail
    go_quiet (fail)
    go_wp2_with fail
    refine (HC.out _).mono ?_
    rintro e w1 ⟨rfl, rfl⟩
    go_wp2_with fail
    go_ret
    exact ⟨by rw [HPP.out] <;> rfl, below_drewN (by go_grown) _⟩
  · rw [if_neg (by omega), if_pos ho] at HP
    have HPP := Lib.hid HP
    clear HP
    have t1 : decide (u < v) = false := by simp; omega
    have t2 : decide (v < u) = true := by simpa using ho
    clear ho
    go_enter Tryz.func88, Tryz.ntmps88
    go_wp2_with fail
    go_quiet (fail)
    go_wp2_with fail
    go_ret
    exact ⟨by rw [HPP.out] <;> rfl, below_drewN (by go_grown) _⟩
end Go.Proofs.YtnajondbdeclmaaGreatDoor

namespace Go.Proofs.YtnajondbdeclmaaGreatDoor
open Go.RowKit
set_option linter.unusedSimpArgs false
set_option linter.unusedVariables false
attribute [local go_sem] SGives_value SGives_skip SGives_enter

theorem ret_two {u v u' v' : Value} (h : u = u') (k : v = v') : Ending.returned (.tuple #[u, v]) = .returned (.tuple #[u', v']) := by rw [h, k]
def cmpD (d e : Dm) : Int := if signP d < signP e then -1 else if signP e < signP d then 1 else if signP d = 0 then 0 else signP d * magP d e
def compV (a b : List UInt8) : Value := match wrongP a with
  | some q => .tuple #[.int .i64 0, spotV 40 (q : Nat)]
  | none => match wrongP b with
    | some q => .tuple #[.int .i64 0, spotV 40 (q : Nat)]
    | none => if nearP (bareP a).2.2 && nearP (bareP b).2.2 then .tuple #[.int .i64 (cmpD (bareP a) (bareP b)), .nilIface] else .tuple #[.int .i64 0, enoV 3]
theorem signP_range (d : Dm) : signP d = -1 ∨ signP d = 0 ∨ signP d = 1 := by unfold signP; split <;> (try split) <;> simp

set_option maxRecDepth 100000 in
set_option maxHeartbeats 1000000 in
theorem compare_any (a b : List UInt8) (w : World) (ha : a.length ≤ 140737488353000) (hb : b.length ≤ 140737488353000) :
    Calls Tryz.prog 44 #[sv a, sv b] w fun e w' => e = .returned (compV a b) ∧ Below w.heap.size w w' := by
  have HR := Lib.hid (fun W => parsed_any a W ha)
  have HQ := Lib.hid (fun W => parsed_any b W hb)
  have HLA := Lib.hid ha
  have HLB := Lib.hid hb
  clear ha hb
  cases hwa : wrongP a with
  | some q =>
    have HV := Lib.hid (show parsedV a = .tuple #[.agg #[.bool false, .string ⟨#[]⟩, .int .i64 0], spotV 40 (q : Nat)] by unfold parsedV; rw [hwa]; rfl)
    have HP := Lib.hid (show compV a b = .tuple #[.int .i64 0, spotV 40 (q : Nat)] by unfold compV; rw [hwa])
    rw [HV.out] at HR
    clear hwa
    go_enter Tryz.func44, Tryz.ntmps44
    go_wp2_with fail
    refine (HR.out _).mono ?_
    rintro e w1 ⟨rfl, hb1⟩
    go_wp2_with fail
    go_ret2
    exact ⟨by rw [HP.out] <;> rfl, hb1.alloc hb1.size _⟩
  | none =>
    have HV := Lib.hid (show parsedV a = .tuple #[decV (bareP a), .nilIface] by unfold parsedV; rw [hwa])
    rw [HV.out] at HR
    have hla := bareP_len a
    have HLA := Lib.hid (show (bareP a).2.1.length ≤ 140737488353000 by have := HLA.out; omega)
    clear hla
    cases hwb : wrongP b with
    | some q =>
      have HU := Lib.hid (show parsedV b = .tuple #[.agg #[.bool false, .string ⟨#[]⟩, .int .i64 0], spotV 40 (q : Nat)] by unfold parsedV; rw [hwb]; rfl)
      have HP := Lib.hid (show compV a b = .tuple #[.int .i64 0, spotV 40 (q : Nat)] by unfold compV; rw [hwa, hwb])
      rw [HU.out] at HQ
      clear hwa hwb
      generalize bareP a = d at *
      obtain ⟨g, t, x⟩ := d
      unfold decV at *
      go_enter Tryz.func44, Tryz.ntmps44
      go_wp2_with fail
      refine (HR.out _).mono ?_
      rintro e w1 ⟨rfl, hb1⟩
      have HB1 := Lib.hid (hb1.alloc hb1.size (.cells #[.bool g, .string ⟨t.toArray⟩, .int .i64 x] 102))
      clear hb1
      unfold sv at *
      go_wp2_with fail
      refine (HQ.out _).mono ?_
      rintro e w2 ⟨rfl, hb2⟩
      have HB2 := Lib.hid (keepb HB1.out hb2)
      clear hb2
      go_wp2_with fail
      go_ret2
      exact ⟨by rw [HP.out] <;> rfl, HB2.out.alloc HB2.out.size _⟩
    | none =>
      have HU := Lib.hid (show parsedV b = .tuple #[decV (bareP b), .nilIface] by unfold parsedV; rw [hwb])
      have HP := Lib.hid (show compV a b = if nearP (bareP a).2.2 && nearP (bareP b).2.2 then .tuple #[.int .i64 (cmpD (bareP a) (bareP b)), .nilIface] else .tuple #[.int .i64 0, enoV 3] by unfold compV; rw [hwa, hwb])
      rw [HU.out] at HQ
      have hlb := bareP_len b
      have HLB := Lib.hid (show (bareP b).2.1.length ≤ 140737488353000 by have := HLB.out; omega)
      clear hwa hwb hlb
      generalize bareP a = d at *
      generalize bareP b = f at *
      have HNA := Lib.hid (fun W => near_any d.2.2 W)
      have HNB := Lib.hid (fun W => near_any f.2.2 W)
      have HXA := Lib.hid (fun h h' W => magnitudes_any d f W HLA.out HLB.out h h')
      have HSA := Lib.hid (fun W => sign_any d W)
      have HSB := Lib.hid (fun W => sign_any f W)
      have HM := Lib.hid (magP_range d f)
      have HRA := Lib.hid (signP_range d)
      have HRB := Lib.hid (signP_range f)
      have HCD := Lib.hid (show cmpD d f = if signP d < signP f then -1 else if signP f < signP d then 1 else if signP d = 0 then 0 else signP d * magP d f from rfl)
      generalize cmpD d f = cd at *
      generalize signP d = s at *
      generalize signP f = r at *
      generalize magP d f = m at *
      have HNE := Lib.hid (rfl : nearP d.2.2 = nearP d.2.2)
      have HNF := Lib.hid (rfl : nearP f.2.2 = nearP f.2.2)
      generalize hna : nearP d.2.2 = na at *
      generalize hnb : nearP f.2.2 = nb at *
      obtain ⟨g, t, x⟩ := d
      obtain ⟨g', t', x'⟩ := f
      simp only at HNA HNB
      unfold decV at *
      clear HNE HNF
      have HXX : Hid (na = true → nb = true → ∀ W, Calls Tryz.prog 88 #[.agg #[.bool g, .string ⟨t.toArray⟩, .int .i64 x], .agg #[.bool g', .string ⟨t'.toArray⟩, .int .i64 x']] W fun r w' => r = .returned (.int .i64 m) ∧ Below W.heap.size W w') := Lib.hid (fun h h' W => HXA.out h h' W)
      clear HXA hna hnb HLA HLB
      unfold sv at *
      go_enter Tryz.func44, Tryz.ntmps44
      go_wp2_with fail
      refine (HR.out _).mono ?_
      rintro e w1 ⟨rfl, hb1⟩
      have HB1 := Lib.hid (hb1.alloc hb1.size (.cells #[.bool g, .string ⟨t.toArray⟩, .int .i64 x] 102))
      have HK1 := Lib.hid (Blk.new w1 102 #[.bool g, .string ⟨t.toArray⟩, .int .i64 x])
      clear hb1
      go_wp2_with fail
      refine (HQ.out _).mono ?_
      rintro e w2 ⟨rfl, hb2⟩
      have HB2 := Lib.hid (((keepb HB1.out hb2).alloc (keepb HB1.out hb2).size (.cells #[.bool g', .string ⟨t'.toArray⟩, .int .i64 x'] 102)))
      have HK2 := Lib.hid ((HK1.out.below hb2 HK1.out.lt).alloc (.cells #[.bool g', .string ⟨t'.toArray⟩, .int .i64 x'] 102))
      have HJ2 := Lib.hid (Blk.new w2 102 #[.bool g', .string ⟨t'.toArray⟩, .int .i64 x'])
      obtain ⟨c0, c1, c2, f0, f1, f2⟩ := HK2.out.three
      obtain ⟨d0, d1, d2, g0, g1, g2⟩ := HJ2.out.three
      clear hb2
      cases na with
      | false =>
        have HPP := Lib.hid (show compV a b = .tuple #[.int .i64 0, enoV 3] by rw [HP.out]; rfl)
        clear HP
        go_wp2_with fail
        refine (HNA.out _).mono ?_
        rintro e w3 ⟨rfl, rfl⟩
        go_wp2_with fail
        go_ret2
        exact ⟨by rw [HPP.out] <;> rfl, HB2.out⟩
      | true =>
        cases nb with
        | false =>
          have HPP := Lib.hid (show compV a b = .tuple #[.int .i64 0, enoV 3] by rw [HP.out]; rfl)
          clear HP
          go_wp2_with fail
          refine (HNA.out _).mono ?_
          rintro e w3 ⟨rfl, rfl⟩
          go_wp2_with fail
          refine (HNB.out _).mono ?_
          rintro e w3 ⟨rfl, rfl⟩
          go_wp2_with fail
          go_ret2
          exact ⟨by rw [HPP.out] <;> rfl, HB2.out⟩
        | true =>
          have HPP := Lib.hid (show compV a b = .tuple #[.int .i64 cd, .nilIface] by rw [HP.out]; rfl)
          have HX := Lib.hid (HXX.out rfl rfl)
          clear HP HXX
          go_wp2_with fail
          refine (HNA.out _).mono ?_
          rintro e w3 ⟨rfl, rfl⟩
          go_wp2_with fail
          refine (HNB.out _).mono ?_
          rintro e w3 ⟨rfl, rfl⟩
          go_wp2_with fail
          generalize (w2.alloc (.cells #[.bool g', .string ⟨t'.toArray⟩, .int .i64 x'] 102)) = w3 at *
          have hz1 := HK2.out.lt
          have hz2 := HJ2.out.lt
          clear c0 c1 c2 f0 f1 f2 d0 d1 d2 g0 g1 g2
          obtain ⟨S, SD⟩ : ∃ S : World → Prop, Go.RowKit.Hid (∀ w' : World, S w' ↔ (Blk w' w1.heap.size 102 #[.bool g, .string ⟨t.toArray⟩, .int .i64 x] ∧ Blk w' w2.heap.size 102 #[.bool g', .string ⟨t'.toArray⟩, .int .i64 x'] ∧ Below w.heap.size w w')) := ⟨_, Lib.hid (fun _ => Iff.rfl)⟩
          refine wp_region_sure (S := S) (by kernel_rfl) (by kernel_rfl) ((SD.out _).2 ⟨HK2.out.drew, HJ2.out.drew, HB2.out.drew⟩) ?_
          repeat
            (first
              | (refine SureL.no (by rfl) ?_; simp only [Act.put, List.setIfInBounds_toArray, List.set_cons_zero, List.set_cons_succ])
              | (refine' SureL.yes (by rfl) (fun wS hS => ?_) ?_
                 rotate_left
                 · have hS' := (SD.out _).1 hS
                   obtain ⟨hS1, hS2, hBS⟩ := hS'
                   obtain ⟨c0, c1, c2, f0, f1, f2⟩ := hS1.three
                   obtain ⟨d0, d1, d2, g0, g1, g2⟩ := hS2.three
                   go_simp
                   first
                     | exact ⟨rfl, hS⟩
                     | (with_reducible refine (HSA.out _).mono ?_; rintro e w' ⟨rfl, hbn⟩; exact ⟨rfl, (SD.out _).2 ⟨hS1.below hbn hS1.lt, hS2.below hbn hS2.lt, keepb hBS hbn⟩⟩)
                     | (with_reducible refine (HSB.out _).mono ?_; rintro e w' ⟨rfl, hbn⟩; exact ⟨rfl, (SD.out _).2 ⟨hS1.below hbn hS1.lt, hS2.below hbn hS2.lt, keepb hBS hbn⟩⟩)
                 simp only [Act.put, List.setIfInBounds_toArray, List.set_cons_zero, List.set_cons_succ]))
          refine SureL.nil ?_
          intro wE hE
          obtain ⟨hS1, hS2, hbw⟩ := (SD.out _).1 hE
          have HK3 := Lib.hid hS1
          have HJ3 := Lib.hid hS2
          have HB3 := Lib.hid hbw
          clear hS1 hS2 hbw hE SD S
          have hs := HRA.out
          have hr := HRB.out
          have hm := HM.out
          have hcd := HCD.out
          rcases Int.lt_trichotomy s r with ho | ho | ho
          · rw [if_pos ho] at hcd
            have t1 : decide (s < r) = true := by simpa using ho
            have HC := Lib.hid hcd
            clear ho hs hr hm hcd
            go_wp2_with fail
            go_ret2
            exact ⟨by rw [HPP.out, HC.out] <;> rfl, HB3.out⟩
          · rw [if_neg (by omega), if_neg (by omega)] at hcd
            subst ho
            have t1 : decide (s < s) = false := by simp
            by_cases hz : s = 0
            · rw [if_pos hz] at hcd
              have HC := Lib.hid hcd
              have t3 : (s == 0) = true := by simpa using hz
              clear hs hr hm hcd hz
              go_wp2_with fail
              go_ret2
              exact ⟨by rw [HPP.out, HC.out] <;> rfl, HB3.out⟩
            · rw [if_neg hz] at hcd
              have t3 : (s == 0) = false := by simpa using hz
              have t4 : IntKind.i64.wrap (s * m) = s * m := by
                apply IntWalk.i64_in
                rcases hs with h | h | h <;> rcases hm with h' | h' | h' <;> rw [h, h'] <;> decide
              have HC := Lib.hid hcd
              clear hs hr hm hcd hz
              obtain ⟨c0, c1, c2, f0, f1, f2⟩ := HK3.out.three
              obtain ⟨d0, d1, d2, g0, g1, g2⟩ := HJ3.out.three
              go_wp2_with fail
              refine (HX.out _).mono ?_
              rintro e w4 ⟨rfl, hb4⟩
              have HB4 := Lib.hid (keepb HB3.out hb4)
              clear hb4
              go_wp2_with fail
              go_ret2
              exact ⟨by rw [HPP.out, HC.out] <;> rfl, HB4.out⟩
          · rw [if_neg (by omega), if_pos ho] at hcd
            have t1 : decide (s < r) = false := by simp; omega
            have t2 : decide (r < s) = true := by simpa using ho
            have HC := Lib.hid hcd
            clear ho hs hr hm hcd
            go_wp2_with fail
            go_ret2
            exact ⟨by rw [HPP.out, HC.out] <;> rfl, HB3.out⟩
end Go.Proofs.YtnajondbdeclmaaGreatDoor
