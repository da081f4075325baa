/- The walk of dec.stripped. The walk of bare. -/
import Derived.Test.YtjggmdlecdbeeaaGreatDoorDecA
import Derived.Test.YtjggmdlecdbeeaaGreatDoorShelf
import Derived.Deep.DeepCutAuto
namespace Go.Proofs.YtjggmdlecdbeeaaGreatDoor
open Go.RowKit
set_option linter.unusedSimpArgs false
set_option linter.unusedVariables false

/-- A decimal's value. -/
def decV (d : Dm) : Value := .agg #[.bool d.1, sv d.2.1, .int .i64 d.2.2]

theorem trimL_eq (l : List UInt8) : Lib.trimLeftB l 48 = noughtsL l := rfl
theorem trimR_eq (l : List UInt8) : Lib.trimRightB l 48 = noughtsR l := rfl
theorem noughtsL_le (l : List UInt8) : (noughtsL l).length ≤ l.length := (List.dropWhile_suffix _).length_le
theorem noughtsR_le (l : List UInt8) : (noughtsR l).length ≤ l.length := by
  unfold noughtsR
  rw [List.length_reverse]
  have := (List.dropWhile_suffix (p := (· == (48 : UInt8))) (l := l.reverse)).length_le
  rw [List.length_reverse] at this
  exact this
/-- A text against the empty one. -/
theorem sv_empty (l : List UInt8) : ((⟨l.toArray⟩ : ByteArray) == ⟨#[]⟩) = decide (l = []) := by
  show (l.toArray == #[]) = _
  cases l <;> simp
theorem sv_len (l : List UInt8) : (⟨l.toArray⟩ : ByteArray).size = l.length := by simp [ByteArray.size]

set_option maxRecDepth 100000 in
set_option maxHeartbeats 1000000 in
theorem stripped_any (g : Bool) (s : List UInt8) (x : Int) (w : World) (hs : s.length ≤ 2305843009213693952) (hx : -2305843009213693952 ≤ x ∧ x ≤ 2305843009213693952) :
    Calls Tryz.prog 27 #[decV (g, s, x)] w fun e w' => e = .returned (decV (stripD (g, s, x))) ∧ Below w.heap.size w w' := by
  have h48 : (48 : UInt8).toNat < 128 := by decide
  have hL := noughtsL_le s
  have hR := noughtsR_le (noughtsL s)
  have HL := Lib.hid (fun W => Tryz.strings_TrimLeft_one ⟨s.toArray⟩ 48 h48 W)
  have hsz : (⟨(noughtsL s).toArray⟩ : ByteArray).size ≤ 9223372036854775807 := by rw [sv_len]; omega
  have HR := Lib.hid (fun W => Tryz.strings_TrimRight_one ⟨(noughtsL s).toArray⟩ 48 h48 W hsz)
  simp only [trimL_eq, trimR_eq, List.toList_toArray] at HL HR
  clear h48 hsz
  have HD : Go.RowKit.Hid (stripD (g, s, x) = if noughtsR (noughtsL s) = [] then (false, [], 0) else (g, noughtsR (noughtsL s), x + (noughtsL s).length - (noughtsR (noughtsL s)).length)) := Lib.hid rfl
  generalize noughtsR (noughtsL s) = t at *
  generalize noughtsL s = l at *
  have hlI : ((l.length : Nat) : Int) ≤ 2305843009213693952 := by omega
  have htI : ((t.length : Nat) : Int) ≤ 2305843009213693952 := by omega
  have k1 : IntKind.i64.wrap (x + (l.length : Int)) = x + l.length := IntWalk.i64_in _ (by omega)
  have k2 : IntKind.i64.wrap (x + (l.length : Int) - (t.length : Int)) = x + l.length - t.length := IntWalk.i64_in _ (by omega)
  have HB := Lib.hid (((Below.refl _ w).alloc (Nat.le_refl _) (.cells #[.bool g, .string ⟨s.toArray⟩, .int .i64 x] 23)).alloc (by simp) (.cells #[.bool false, .string ⟨#[]⟩, .int .i64 0] 23))
  have ke : t.isEmpty = decide (t = []) := by cases t <;> rfl
  unfold decV sv
  clear hs hx hL hR hlI htI
  cases hE : decide (t = []) with
  | true =>
    have HE := Lib.hid (of_decide_eq_true hE)
    rw [hE] at ke
    clear hE
    go_enter Tryz.func27, Tryz.ntmps27
    go_wp2_with fail
    refine (HL.out _).mono ?_
    rintro e w' ⟨rfl, rfl⟩
    go_wp2_with fail
    refine (HR.out _).mono ?_
    rintro e w' ⟨rfl, rfl⟩
    go_wp2_with fail
    exact bodyPost_ret (v := .agg #[.bool false, .string ⟨#[]⟩, .int .i64 0]) (by simp [results, Tryz.results27, go_sem]) rfl ⟨by rw [HD.out, if_pos HE.out], HB.out⟩
  | false =>
    have HE := Lib.hid (of_decide_eq_false hE)
    rw [hE] at ke
    clear hE
    go_enter Tryz.func27, Tryz.ntmps27
    go_wp2_with fail
    refine (HL.out _).mono ?_
    rintro e w' ⟨rfl, rfl⟩
    go_wp2_with fail
    refine (HR.out _).mono ?_
    rintro e w' ⟨rfl, rfl⟩
    go_wp2_with fail
    exact bodyPost_ret (v := .agg #[.bool g, .string ⟨t.toArray⟩, .int .i64 (x + (l.length : Int) - (t.length : Int))]) (by simp [results, Tryz.results27, go_sem]) rfl ⟨by rw [HD.out, if_neg HE.out], ((Below.refl _ w).alloc (Nat.le_refl _) _).alloc (by simp) _⟩
end Go.Proofs.YtjggmdlecdbeeaaGreatDoor

namespace Go.Proofs.YtjggmdlecdbeeaaGreatDoor
open Go.RowKit
set_option linter.unusedSimpArgs false
set_option linter.unusedVariables false

theorem capE_step (l : List UInt8) (i : Nat) (h : i < l.length) : capE (l.take (i + 1)) = if capE (l.take i) < farE then 10 * capE (l.take i) + (bt l i - 48) else capE (l.take i) := by
  unfold capE bt
  rw [List.take_succ_eq_append_getElem h, List.foldl_append, List.getD_eq_getElem?_getD, List.getElem?_eq_getElem h]
  rfl
theorem capE_stop (l : List UInt8) (i : Nat) (h : farE ≤ capE (l.take i)) : capE l = capE (l.take i) := by
  have key : ∀ (m : List UInt8) (e : Nat), farE ≤ e → m.foldl (fun e c => if e < farE then 10 * e + (c.toNat - 48) else e) e = e := by
    intro m
    induction m with
    | nil => intro e _; rfl
    | cons c m ih => intro e he; rw [List.foldl_cons, if_neg (by omega)]; exact ih e he
  have : capE l = (l.take i ++ l.drop i).foldl (fun e c => if e < farE then 10 * e + (c.toNat - 48) else e) 0 := by rw [List.take_append_drop]; rfl
  rw [this, List.foldl_append]
  exact key _ _ h
theorem capE_take_lt (l : List UInt8) (i : Nat) (hl : ∀ c ∈ l, isD c = true) : capE (l.take i) < 10 * farE := capE_lt _ fun c hc => hl c (List.mem_of_mem_take hc)
theorem bt_isD {l : List UInt8} {i : Nat} (h : i < l.length) (hl : ∀ c ∈ l, isD c = true) : 48 ≤ bt l i ∧ bt l i ≤ 57 := by
  have := hl l[i] (List.getElem_mem h)
  unfold isD at this
  unfold bt
  rw [List.getD_eq_getElem?_getD, List.getElem?_eq_getElem h]
  simpa using this

/-- The rounds of bare: at place i the number is that of the first i digits. -/
theorem sv_cat (a b : List UInt8) : ((⟨a.toArray⟩ : ByteArray) ++ ⟨b.toArray⟩) = ⟨(a ++ b).toArray⟩ := by
  apply ByteArray.ext
  simp
theorem far_num : farE = 35184372088832 := rfl

set_option maxRecDepth 100000 in
set_option maxHeartbeats 1000000 in
theorem bare_any (g u : Bool) (a b e : List UInt8) (w : World) (ha : a.length + b.length ≤ 140737488353000) (he : e.length ≤ 140737488353000) (hd : ∀ c ∈ e, isD c = true) :
    Calls Tryz.prog 65 #[.agg #[.bool g, sv a, sv b, .bool u, sv e]] w fun x w' => x = .returned (decV (stripD (g, a ++ b, (if u then -(capE e : Int) else (capE e : Int)) - b.length))) ∧ Below w.heap.size w w' := by
  have HD := Lib.hid hd
  have HA := Lib.hid ha
  have heI : ((e.length : Nat) : Int) ≤ 140737488353000 := by omega
  clear hd ha he
  have HN := Lib.hid (show Blk ((w.alloc (.cells #[.bool g, .string ⟨a.toArray⟩, .string ⟨b.toArray⟩, .bool u, .string ⟨e.toArray⟩] 109)).alloc (.cells #[.bool false, .string ⟨#[]⟩, .int .i64 0] 23)) (w.heap.size + 1) 23 #[.bool false, .string ⟨#[]⟩, .int .i64 0] by have := Blk.new (w.alloc (.cells #[.bool g, .string ⟨a.toArray⟩, .string ⟨b.toArray⟩, .bool u, .string ⟨e.toArray⟩] 109)) 23 #[.bool false, .string ⟨#[]⟩, .int .i64 0]; simpa using this)
  have HN0 := Lib.hid (((Below.refl _ w).alloc (Nat.le_refl _) (.cells #[.bool g, .string ⟨a.toArray⟩, .string ⟨b.toArray⟩, .bool u, .string ⟨e.toArray⟩] 109)).alloc (by simp) (.cells #[.bool false, .string ⟨#[]⟩, .int .i64 0] 23))
  unfold sv
  go_enter Tryz.func65, Tryz.ntmps65
  go_wp2_with fail
  go_loop [3, 4] (fun x v => ∃ k : Nat, v = .int .i64 (k : Int) ∧ k ≤ e.length ∧ x = .int .i64 ((capE (e.take k) : Nat) : Int)) (fun x v => e.length - (intOf v).toNat)
  case atStart => exact ⟨0, by go_num, Nat.zero_le _, rfl⟩
  case round =>
    obtain ⟨k, rfl, hk, rfl⟩ := hrel
    have hkl : ((k : Nat) : Int) ≤ ((e.length : Nat) : Int) := by omega
    have hc : (capE (e.take k) : Int) < 10 * 35184372088832 := by have := capE_take_lt e k HD.out; unfold farE at this; omega
    rcases Nat.lt_or_ge k e.length with hlt | hge
    · have u1 : decide (((k : Nat) : Int) < ((e.length : Nat) : Int)) = true := by simp; omega
      have u1' : decide (k < e.length) = true := by simpa using hlt
      have hki : ((k : Nat) : Int) < ((e.length : Nat) : Int) := by omega
      rcases Nat.lt_or_ge (capE (e.take k)) farE with hf | hf
      · have hst := capE_step e k hlt
        rw [if_pos hf] at hst
        have hbb := bt_isD hlt HD.out
        have hbk := bget e k hlt
        have HST := Lib.hid hst
        have HK := Lib.hid hlt
        clear hst
        generalize capE (e.take k) = c at *
        generalize bt e k = y at *
        have u2 : decide (((c : Nat) : Int) < 35184372088832) = true := by unfold farE at hf; simp; omega
        have k1 : IntKind.i64.wrap (10 * (c : Int)) = 10 * (c : Int) := IntWalk.i64_in _ (by unfold farE at hf; omega)
        have k2 : IntKind.u8.wrap ((y : Int) - 48) = ((y - 48 : Nat) : Int) := by
          have : (y : Int) - 48 = ((y - 48 : Nat) : Int) := by omega
          rw [this]; exact IntWalk.u8_in _ (by omega)
        have k4 : IntKind.i64.wrap ((y - 48 : Nat) : Int) = ((y - 48 : Nat) : Int) := IntWalk.i64_in _ (by omega)
        have k3 : IntKind.i64.wrap (10 * (c : Int) + ((y - 48 : Nat) : Int)) = ((10 * c + (y - 48) : Nat) : Int) := by rw [IntWalk.i64_in _ (by unfold farE at hf; omega)]; omega
        generalize y - 48 = z at *
        clear hf hbb hc
        go_wp2_with fail
        refine ⟨⟨k + 1, by go_num, HK.out, ?_⟩, ?_⟩
        · rw [HST.out]; congr 1
        · have := HK.out; simp [intOf]; omega
      · have u2 : decide (((capE (e.take k) : Nat) : Int) < 35184372088832) = false := by unfold farE at hf; simp; omega
        have HC := Lib.hid (capE_stop e k hf)
        clear hf
        generalize capE (e.take k) = c at *
        have k5 : IntKind.i64.wrap (-(c : Int)) = -(c : Int) := IntWalk.i64_in _ (by omega)
        have k6 : IntKind.i64.wrap (-(c : Int) - (b.length : Int)) = -(c : Int) - (b.length : Int) := IntWalk.i64_in _ (by have := HA.out; omega)
        have k7 : IntKind.i64.wrap ((c : Int) - (b.length : Int)) = (c : Int) - (b.length : Int) := IntWalk.i64_in _ (by have := HA.out; omega)
        have HC0 := Lib.hid hc
        clear hc hkl hk hlt hki
        have hab := HA.out
        have habI : ((a.length : Nat) : Int) + ((b.length : Nat) : Int) ≤ 140737488353000 := by omega
        cases u with
        | true =>
          go_wp2_with fail
          rw [sv_cat]
          refine (stripped_any g (a ++ b) (-(c : Int) - (b.length : Int)) _ (by rw [List.length_append]; omega) (by have := HC0.out; omega)).mono ?_
          rintro x w' ⟨rfl, HB⟩
          have HS := Lib.hid (show stripD (g, a ++ b, (if true then -(capE e : Int) else (capE e : Int)) - b.length) = stripD (g, a ++ b, -(c : Int) - (b.length : Int)) by rw [HC.out]; rfl)
          have b2 := (HN.out).below HB (HN.out).lt
          have HBB := Lib.hid (keepb HN0.out HB)
          generalize stripD (g, a ++ b, -(c : Int) - (b.length : Int)) = d at *
          obtain ⟨g', t', x'⟩ := d
          have d0 := b2.cell 0
          have d1 := b2.cell 1
          have d2 := b2.cell 2
          have f0 := b2.frozen 0
          have f1 := b2.frozen 1
          have f2 := b2.frozen 2
          have HE := Lib.hid (((b2.set1 0 (.bool g')).set1 1 (sv t')).set1 2 (.int .i64 x'))
          clear b2 HB hab habI k5 k6 k7
          unfold decV sv
          go_simp
          repeat go_step
          have e0 := HE.out.cell 0
          have e1 := HE.out.cell 1
          have e2 := HE.out.cell 2
          exact bodyPost_ret (v := .agg #[.bool g', sv t', .int .i64 x']) (by simp [results, Tryz.results65, go_sem, e0, e1, e2]) rfl ⟨by have := HS.out; simp only [if_true, if_false, Bool.false_eq_true] at this ⊢; rw [this]; rfl, (((HBB.out.setCell (p := ⟨w.heap.size + 1, 0, none⟩) (by simp) _).setCell (p := ⟨w.heap.size + 1, 1, none⟩) (by simp) _).setCell (p := ⟨w.heap.size + 1, 2, none⟩) (by simp) _)⟩
        | false =>
          go_wp2_with fail
          rw [sv_cat]
          refine (stripped_any g (a ++ b) ((c : Int) - (b.length : Int)) _ (by rw [List.length_append]; omega) (by have := HC0.out; omega)).mono ?_
          rintro x w' ⟨rfl, HB⟩
          have HS := Lib.hid (show stripD (g, a ++ b, (if false then -(capE e : Int) else (capE e : Int)) - b.length) = stripD (g, a ++ b, (c : Int) - (b.length : Int)) by rw [HC.out]; rfl)
          have b2 := (HN.out).below HB (HN.out).lt
          have HBB := Lib.hid (keepb HN0.out HB)
          generalize stripD (g, a ++ b, (c : Int) - (b.length : Int)) = d at *
          generalize (c : Int) - (b.length : Int) = y at *
          obtain ⟨g', t', x'⟩ := d
          have d0 := b2.cell 0
          have d1 := b2.cell 1
          have d2 := b2.cell 2
          have f0 := b2.frozen 0
          have f1 := b2.frozen 1
          have f2 := b2.frozen 2
          have HE := Lib.hid (((b2.set1 0 (.bool g')).set1 1 (sv t')).set1 2 (.int .i64 x'))
          clear b2 HB hab habI k5 k6 k7
          unfold decV sv
          go_simp
          repeat go_step
          have e0 := HE.out.cell 0
          have e1 := HE.out.cell 1
          have e2 := HE.out.cell 2
          exact bodyPost_ret (v := .agg #[.bool g', sv t', .int .i64 x']) (by simp [results, Tryz.results65, go_sem, e0, e1, e2]) rfl ⟨by have := HS.out; simp only [if_true, if_false, Bool.false_eq_true] at this ⊢; rw [this]; rfl, (((HBB.out.setCell (p := ⟨w.heap.size + 1, 0, none⟩) (by simp) _).setCell (p := ⟨w.heap.size + 1, 1, none⟩) (by simp) _).setCell (p := ⟨w.heap.size + 1, 2, none⟩) (by simp) _)⟩
    · have u1 : decide (((k : Nat) : Int) < ((e.length : Nat) : Int)) = false := by simp; omega
      have u1' : decide (k < e.length) = false := by simpa using hge
      have HC := Lib.hid (show capE e = capE (e.take k) by rw [List.take_of_length_le hge])
      clear hge
      generalize capE (e.take k) = c at *
      have k5 : IntKind.i64.wrap (-(c : Int)) = -(c : Int) := IntWalk.i64_in _ (by omega)
      have k6 : IntKind.i64.wrap (-(c : Int) - (b.length : Int)) = -(c : Int) - (b.length : Int) := IntWalk.i64_in _ (by have := HA.out; omega)
      have k7 : IntKind.i64.wrap ((c : Int) - (b.length : Int)) = (c : Int) - (b.length : Int) := IntWalk.i64_in _ (by have := HA.out; omega)
      have HC0 := Lib.hid hc
      clear hc hkl hk
      have hab := HA.out
      have habI : ((a.length : Nat) : Int) + ((b.length : Nat) : Int) ≤ 140737488353000 := by omega
      cases u with
      | true =>
        go_wp2_with fail
        rw [sv_cat]
        refine (stripped_any g (a ++ b) (-(c : Int) - (b.length : Int)) _ (by rw [List.length_append]; omega) (by have := HC0.out; omega)).mono ?_
        rintro x w' ⟨rfl, HB⟩
        have HS := Lib.hid (show stripD (g, a ++ b, (if true then -(capE e : Int) else (capE e : Int)) - b.length) = stripD (g, a ++ b, -(c : Int) - (b.length : Int)) by rw [HC.out]; rfl)
        have b2 := (HN.out).below HB (HN.out).lt
        have HBB := Lib.hid (keepb HN0.out HB)
        generalize stripD (g, a ++ b, -(c : Int) - (b.length : Int)) = d at *
        obtain ⟨g', t', x'⟩ := d
        have d0 := b2.cell 0
        have d1 := b2.cell 1
        have d2 := b2.cell 2
        have f0 := b2.frozen 0
        have f1 := b2.frozen 1
        have f2 := b2.frozen 2
        have HE := Lib.hid (((b2.set1 0 (.bool g')).set1 1 (sv t')).set1 2 (.int .i64 x'))
        clear b2 HB hab habI k5 k6 k7
        unfold decV sv
        go_simp
        repeat go_step
        have e0 := HE.out.cell 0
        have e1 := HE.out.cell 1
        have e2 := HE.out.cell 2
        exact bodyPost_ret (v := .agg #[.bool g', sv t', .int .i64 x']) (by simp [results, Tryz.results65, go_sem, e0, e1, e2]) rfl ⟨by have := HS.out; simp only [if_true, if_false, Bool.false_eq_true] at this ⊢; rw [this]; rfl, (((HBB.out.setCell (p := ⟨w.heap.size + 1, 0, none⟩) (by simp) _).setCell (p := ⟨w.heap.size + 1, 1, none⟩) (by simp) _).setCell (p := ⟨w.heap.size + 1, 2, none⟩) (by simp) _)⟩
      | false =>
        go_wp2_with fail
        rw [sv_cat]
        refine (stripped_any g (a ++ b) ((c : Int) - (b.length : Int)) _ (by rw [List.length_append]; omega) (by have := HC0.out; omega)).mono ?_
        rintro x w' ⟨rfl, HB⟩
        have HS := Lib.hid (show stripD (g, a ++ b, (if false then -(capE e : Int) else (capE e : Int)) - b.length) = stripD (g, a ++ b, (c : Int) - (b.length : Int)) by rw [HC.out]; rfl)
        have b2 := (HN.out).below HB (HN.out).lt
        have HBB := Lib.hid (keepb HN0.out HB)
        generalize stripD (g, a ++ b, (c : Int) - (b.length : Int)) = d at *
        generalize (c : Int) - (b.length : Int) = y at *
        obtain ⟨g', t', x'⟩ := d
        have d0 := b2.cell 0
        have d1 := b2.cell 1
        have d2 := b2.cell 2
        have f0 := b2.frozen 0
        have f1 := b2.frozen 1
        have f2 := b2.frozen 2
        have HE := Lib.hid (((b2.set1 0 (.bool g')).set1 1 (sv t')).set1 2 (.int .i64 x'))
        clear b2 HB hab habI k5 k6 k7
        unfold decV sv
        go_simp
        repeat go_step
        have e0 := HE.out.cell 0
        have e1 := HE.out.cell 1
        have e2 := HE.out.cell 2
        exact bodyPost_ret (v := .agg #[.bool g', sv t', .int .i64 x']) (by simp [results, Tryz.results65, go_sem, e0, e1, e2]) rfl ⟨by have := HS.out; simp only [if_true, if_false, Bool.false_eq_true] at this ⊢; rw [this]; rfl, (((HBB.out.setCell (p := ⟨w.heap.size + 1, 0, none⟩) (by simp) _).setCell (p := ⟨w.heap.size + 1, 1, none⟩) (by simp) _).setCell (p := ⟨w.heap.size + 1, 2, none⟩) (by simp) _)⟩
end Go.Proofs.YtjggmdlecdbeeaaGreatDoor
