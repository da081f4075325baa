/- The walks of dec.Round, Bits, Parts. The contracts of the law's number, spot, wakes, literal. -/
import Derived.Test.YtnajondbdeclmaaGreatDoorDecJ
import Derived.Test.YtnajondbdeclmaaGreatDoorDecD
namespace Go.Proofs.YtnajondbdeclmaaGreatDoor
open Go.RowKit
set_option linter.unusedSimpArgs false
set_option linter.unusedVariables false

theorem is_any (x : Int) (w : World) :
    Calls Tryz.prog 120 #[.int .i64 x] w fun e w' => e = .returned (.bool (decide (1 ≤ x ∧ x ≤ 5))) ∧ w = w' := by
  by_cases h1 : 1 ≤ x
  · by_cases h2 : x ≤ 5
    · have h : decide (1 ≤ x ∧ x ≤ 5) = true := decide_eq_true ⟨h1, h2⟩
      rw [h]
      have t1 : decide (1 ≤ x) = true := decide_eq_true h1
      have t2 : decide (x ≤ 5) = true := decide_eq_true h2
      clear h1 h2 h
      go_enter Tryz.func120, Tryz.ntmps120
      go_wp2
      go_ret
      exact ⟨rfl, rfl⟩
    · have h : decide (1 ≤ x ∧ x ≤ 5) = false := decide_eq_false (fun h => h2 h.2)
      rw [h]
      have t1 : decide (1 ≤ x) = true := decide_eq_true h1
      have t2 : decide (x ≤ 5) = false := decide_eq_false h2
      clear h1 h2 h
      go_enter Tryz.func120, Tryz.ntmps120
      go_wp2
      go_ret
      exact ⟨rfl, rfl⟩
  · have h : decide (1 ≤ x ∧ x ≤ 5) = false := decide_eq_false (fun h => h1 h.1)
    rw [h]
    have t1 : decide (1 ≤ x) = false := decide_eq_false h1
    clear h1 h
    go_enter Tryz.func120, Tryz.ntmps120
    go_wp2
    go_ret
    exact ⟨rfl, rfl⟩

set_option maxRecDepth 100000 in
theorem round_bad (s : List UInt8) (way : Int) (w : World) (hw : decide (1 ≤ way ∧ way ≤ 5) = false) :
    Calls Tryz.prog 86 #[sv s, .int .i64 way] w fun e w' => e = .returned (.tuple #[.int .u64 0, enoV 2]) ∧ Below w.heap.size w w' := by
  have HI := Lib.hid (fun W => is_any way W)
  rw [hw] at HI
  clear hw
  go_enter Tryz.func86, Tryz.ntmps86
  go_wp2_with fail
  refine (HI.out _).mono ?_
  rintro e w1 ⟨rfl, rfl⟩
  go_wp2_with fail
  go_ret2
  exact ⟨rfl, Below.refl _ _⟩
set_option maxRecDepth 100000 in
theorem round_wrong (s : List UInt8) (way : Int) (q : Nat) (w : World) (hs : s.length ≤ 140737488353000) (hw : decide (1 ≤ way ∧ way ≤ 5) = true) (hq : wrongP s = some q) :
    Calls Tryz.prog 86 #[sv s, .int .i64 way] w fun e w' => e = .returned (.tuple #[.int .u64 0, spotV 40 (q : Nat)]) ∧ Below w.heap.size w w' := by
  have HI := Lib.hid (fun W => is_any way W)
  rw [hw] at HI
  have HR := Lib.hid (fun W => parsed_any s W hs)
  have HV := Lib.hid (show parsedV s = .tuple #[.agg #[.bool false, .string ⟨#[]⟩, .int .i64 0], spotV 40 (q : Nat)] by unfold parsedV; rw [hq]; rfl)
  rw [HV.out] at HR
  clear hw hq hs
  go_enter Tryz.func86, Tryz.ntmps86
  go_wp2_with fail
  refine (HI.out _).mono ?_
  rintro e w1 ⟨rfl, rfl⟩
  go_wp2_with fail
  refine (HR.out _).mono ?_
  rintro e w2 ⟨rfl, hb2⟩
  go_wp2_with fail
  go_ret2
  exact ⟨rfl, hb2.alloc hb2.size _⟩
set_option maxRecDepth 100000 in
theorem round_ok (s : List UInt8) (way : Int) (w : World) (hs : s.length ≤ 140737488353000) (hw : 1 ≤ way ∧ way ≤ 5) (hq : wrongP s = none) :
    Calls Tryz.prog 86 #[sv s, .int .i64 way] w fun e w' => e = .returned (roundV (roundP (bareP s) way)) ∧ Below w.heap.size w w' := by
  have HI := Lib.hid (fun W => is_any way W)
  rw [decide_eq_true hw] at HI
  have HR := Lib.hid (fun W => parsed_any s W hs)
  have HV := Lib.hid (show parsedV s = .tuple #[decV (bareP s), .nilIface] by unfold parsedV; rw [hq])
  rw [HV.out] at HR
  have hl := bareP_len s
  have HQ := Lib.hid (fun W => rounded_any (bareP s) way W (bareP_bare s) (by omega) (by omega) hw)
  clear hw hq hs hl
  generalize hrp : roundP (bareP s) way = rp at *
  generalize bareP s = d at *
  obtain ⟨g, l, x⟩ := d
  unfold decV sv at *
  clear hrp
  obtain ⟨a, er, hae⟩ : ∃ a er, roundV rp = .tuple #[a, er] := by cases rp <;> exact ⟨_, _, rfl⟩
  rw [hae] at HQ ⊢
  clear hae
  go_enter Tryz.func86, Tryz.ntmps86
  go_wp2_with fail
  refine (HI.out _).mono ?_
  rintro e w1 ⟨rfl, rfl⟩
  go_wp2_with fail
  refine (HR.out _).mono ?_
  rintro e w2 ⟨rfl, hb2⟩
  have HB2 := Lib.hid (hb2.alloc hb2.size (.cells #[.bool g, .string ⟨l.toArray⟩, .int .i64 x] 102))
  clear hb2
  go_wp2_with fail
  refine (HQ.out _).mono ?_
  rintro e w3 ⟨rfl, hb3⟩
  have HB3 := Lib.hid (keepb HB2.out hb3)
  clear hb3
  go_wp2_with fail
  go_ret2
  exact ⟨rfl, HB3.out⟩

set_option maxRecDepth 100000 in
theorem bits_any (s : List UInt8) (a er : Value) (w : World) (H : ∀ W, Calls Tryz.prog 86 #[sv s, .int .i64 1] W fun e w' => e = .returned (.tuple #[a, er]) ∧ Below W.heap.size W w') :
    Calls Tryz.prog 42 #[sv s] w fun e w' => e = .returned (.tuple #[a, er]) ∧ Below w.heap.size w w' := by
  have HR := Lib.hid H
  clear H
  go_enter Tryz.func42, Tryz.ntmps42
  go_wp2_with fail
  refine (HR.out _).mono ?_
  rintro e w1 ⟨rfl, hb1⟩
  go_wp2_with fail
  go_ret2
  exact ⟨rfl, hb1⟩
theorem bits_wrong (s : List UInt8) (q : Nat) (w : World) (hs : s.length ≤ 140737488353000) (hq : wrongP s = some q) :
    Calls Tryz.prog 42 #[sv s] w fun e w' => e = .returned (.tuple #[.int .u64 0, spotV 40 (q : Nat)]) ∧ Below w.heap.size w w' :=
  bits_any s _ _ w fun W => round_wrong s 1 q W hs (by decide) hq
theorem bits_ok (s : List UInt8) (w : World) (hs : s.length ≤ 140737488353000) (hq : wrongP s = none) :
    Calls Tryz.prog 42 #[sv s] w fun e w' => e = .returned (roundV (roundP (bareP s) 1)) ∧ Below w.heap.size w w' := by
  obtain ⟨a, er, hae⟩ : ∃ a er, roundV (roundP (bareP s) 1) = .tuple #[a, er] := by cases roundP (bareP s) 1 <;> exact ⟨_, _, rfl⟩
  rw [hae]
  exact bits_any s _ _ w fun W => by rw [← hae]; exact round_ok s 1 W hs (by decide) hq
end Go.Proofs.YtnajondbdeclmaaGreatDoor

namespace Go.Proofs.YtnajondbdeclmaaGreatDoor
open Go.RowKit
set_option linter.unusedSimpArgs false
set_option linter.unusedVariables false

theorem ta_eno (n : Int) (w : World) : (Instr.typeAssert (enoV n) 24 72 true).run Tryz.prog w = .ok (.tuple #[.int .i64 n, .bool true]) w := by kernel_rfl
theorem ta_spot (n q : Int) (w : World) : (Instr.typeAssert (spotV n q) 24 129 true).run Tryz.prog w = .ok (.tuple #[.agg #[.int .i64 n, .int .i64 q], .bool true]) w := by kernel_rfl
theorem wakes_bits (w : World) : Calls Tryz.prog 42 #[.string ⟨#[45, 50, 46, 53]⟩] w fun e w' => e = .returned (.tuple #[.int .u64 13836183955189006336, .nilIface]) ∧ Below w.heap.size w w' := by
  have h := bits_ok [45, 50, 46, 53] w (by decide) (by decide)
  have e : roundP (bareP [45, 50, 46, 53]) 1 = some 13836183955189006336 := by decide +kernel
  rw [e] at h
  exact h
theorem wakes_comp (w : World) : Calls Tryz.prog 44 #[.string ⟨#[49, 101, 50]⟩, .string ⟨#[57, 57]⟩] w fun e w' => e = .returned (.tuple #[.int .i64 1, .nilIface]) ∧ Below w.heap.size w w' := by
  have h := compare_any [49, 101, 50] [57, 57] w (by decide) (by decide)
  have e : compV [49, 101, 50] [57, 57] = .tuple #[.int .i64 1, .nilIface] := by
    have h1 : wrongP [49, 101, 50] = none := by decide
    have h2 : wrongP [57, 57] = none := by decide
    have h3 : (nearP (bareP [49, 101, 50]).2.2 && nearP (bareP [57, 57]).2.2) = true := by decide +kernel
    have h4 : cmpD (bareP [49, 101, 50]) (bareP [57, 57]) = 1 := by decide +kernel
    unfold compV
    rw [h1, h2]
    simp only [h3, h4, if_true]
  rw [e] at h
  exact h
/-- The literal that a text is turned to. -/
def litOf (s : List UInt8) : List UInt8 := match wrongP s with
  | none => s
  | some _ => [48]
theorem litOf_ok (s : List UInt8) : wrongP (litOf s) = none := by
  unfold litOf
  cases h : wrongP s with
  | none => exact h
  | some q => show wrongP [48] = none; decide
theorem litOf_len {s : List UInt8} {n : Nat} (h : s.length ≤ n) (hn : 1 ≤ n) : (litOf s).length ≤ n := by
  unfold litOf
  cases wrongP s with
  | none => exact h
  | some q => exact hn
theorem comp_at (a b : List UInt8) (w : World) (ha : a.length ≤ 140737488353000) (hb : b.length ≤ 140737488353000) (qa : wrongP a = none) (qb : wrongP b = none) (n : Bool) (h : (nearP (bareP a).2.2 && nearP (bareP b).2.2) = n) :
    Calls Tryz.prog 44 #[sv a, sv b] w fun e w' => e = .returned (if n then .tuple #[.int .i64 (cmpD (bareP a) (bareP b)), .nilIface] else .tuple #[.int .i64 0, enoV 3]) ∧ Below w.heap.size w w' := by
  have k := compare_any a b w ha hb
  have e : compV a b = if n then .tuple #[.int .i64 (cmpD (bareP a) (bareP b)), .nilIface] else .tuple #[.int .i64 0, enoV 3] := by
    unfold compV
    rw [qa, qb]
    simp only [h]
  rw [e] at k
  exact k
theorem ba_list (b : ByteArray) : ∃ l : List UInt8, b = ⟨l.toArray⟩ := ⟨b.data.toList, by cases b; rfl⟩
end Go.Proofs.YtnajondbdeclmaaGreatDoor
