/- The walk of DecOrders. -/
import Derived.Test.YtjggmdlecdbeeaaDoorDecN
import Derived.Test.YtjggmdlecdbeeaaDoorDecS
namespace Go.Proofs.YtjggmdlecdbeeaaDoor.decOrders
open Go.RowKit
set_option linter.unusedSimpArgs false
set_option linter.unusedVariables false

/-- What the law says of three comparisons. -/
theorem law (x y z : Int) (h1 : x ≤ 0 → y ≤ 0 → z ≤ 0 ∧ (x < 0 ∨ y < 0 → z < 0)) (h2 : 0 ≤ x → 0 ≤ y → 0 ≤ z) (hx : x = -1 ∨ x = 0 ∨ x = 1) (hy : y = -1 ∨ y = 0 ∨ y = 1) (hz : z = -1 ∨ z = 0 ∨ z = 1) :
    (x = -1 ∧ y = -1 ∧ z = -1) ∨ (x = -1 ∧ y = 0 ∧ z = -1) ∨ (x = 0 ∧ y = -1 ∧ z = -1) ∨ (x = 0 ∧ y = 0 ∧ z = 0) ∨ (x = 0 ∧ y = 1 ∧ 0 ≤ z) ∨ (x = 1 ∧ y = 0 ∧ 0 ≤ z) ∨ (x = 1 ∧ y = 1 ∧ 0 ≤ z) ∨ (x = -1 ∧ y = 1) ∨ (x = 1 ∧ y = -1) := by
  rcases hx with rfl | rfl | rfl <;> rcases hy with rfl | rfl | rfl <;> rcases hz with rfl | rfl | rfl <;> simp at h1 h2 ⊢

set_option maxRecDepth 100000 in
set_option maxHeartbeats 8000000 in
theorem walk (a0 a1 a2 : ByteArray) (w : World) (w0 : a0.size ≤ maxLen) (s0 : a0.size ≤ 140737488351232) (w1 : a1.size ≤ maxLen) (s1 : a1.size ≤ 140737488351232) (w2 : a2.size ≤ maxLen) (s2 : a2.size ≤ 140737488351232) :
    Calls Tryd.prog 5 #[.string a0, .string a1, .string a2] w fun e w' => e = .returned (.bool true) ∧ Below w.heap.size w w' := by
  obtain ⟨s, rfl⟩ := ba_list a0
  obtain ⟨t, rfl⟩ := ba_list a1
  obtain ⟨u, rfl⟩ := ba_list a2
  rw [sv_len] at s0 s1 s2
  clear w0 w1 w2
  have HLS := Lib.hid (fun W => literal_any s W (by omega))
  have HLT := Lib.hid (fun W => literal_any t W (by omega))
  have HLU := Lib.hid (fun W => literal_any u W (by omega))
  have la := litOf_len s0 (by decide)
  have lb := litOf_len s1 (by decide)
  have lc := litOf_len s2 (by decide)
  have qa := litOf_ok s
  have qb := litOf_ok t
  have qc := litOf_ok u
  generalize litOf s = a at *
  generalize litOf t = b at *
  generalize litOf u = c at *
  have HAB := Lib.hid (fun W => comp_at a b W (by omega) (by omega) qa qb _ rfl)
  have HBC := Lib.hid (fun W => comp_at b c W (by omega) (by omega) qb qc _ rfl)
  have HAC := Lib.hid (fun W => comp_at a c W (by omega) (by omega) qa qc _ rfl)
  have HBA := Lib.hid (fun W => comp_at b a W (by omega) (by omega) qb qa _ rfl)
  have HAA := Lib.hid (fun W => comp_at a a W (by omega) (by omega) qa qa _ rfl)
  have hx := cmpD_range (bareP a) (bareP b)
  have hy := cmpD_range (bareP b) (bareP c)
  have hz := cmpD_range (bareP a) (bareP c)
  have h1 := cmpD_trans (bareP a) (bareP b) (bareP c)
  have h2 := cmpD_trans (bareP c) (bareP b) (bareP a)
  rw [cmpD_anti (bareP b) (bareP c), cmpD_anti (bareP a) (bareP b), cmpD_anti (bareP a) (bareP c)] at h2
  rw [cmpD_anti (bareP a) (bareP b)] at HBA
  rw [cmpD_self] at HAA
  generalize cmpD (bareP a) (bareP b) = x at *
  generalize cmpD (bareP b) (bareP c) = y at *
  generalize cmpD (bareP a) (bareP c) = z at *
  have hl := law x y z h1 (fun hx hy => by have := h2 (by omega) (by omega); omega) hx hy hz
  have HX := Lib.hid hx
  have HL := Lib.hid hl
  clear hx hy hz h1 h2 hl s0 s1 s2 la lb lc qa qb qc
  generalize nearP (bareP a).2.2 = na at *
  generalize nearP (bareP b).2.2 = nb at *
  generalize nearP (bareP c).2.2 = nc at *
  unfold sv at *
  go_enter Tryd.func5, Tryd.ntmps5
  go_wp2_with fail
  refine (HLS.out _).mono ?_
  rintro e w1 ⟨rfl, hb⟩
  have HB1 := Lib.hid hb
  clear hb
  go_wp2_with fail
  refine (HLT.out _).mono ?_
  rintro e w2 ⟨rfl, hb⟩
  have HB2 := Lib.hid (keepb HB1.out hb)
  clear hb
  go_wp2_with fail
  refine (HLU.out _).mono ?_
  rintro e w3 ⟨rfl, hb⟩
  have HB3 := Lib.hid (keepb HB2.out hb)
  clear hb
  go_wp2_with fail
  by_cases hn : na = true ∧ nb = true ∧ nc = true
  · obtain ⟨rfl, rfl, rfl⟩ := hn
    simp only [Bool.and_true, Bool.and_self, if_true] at HAB HBC HAC HBA HAA
    refine (HAB.out _).mono ?_
    rintro e w4 ⟨rfl, hb⟩
    have HB4 := Lib.hid (keepb HB3.out hb)
    clear hb
    go_wp2_with fail
    refine (HBC.out _).mono ?_
    rintro e w5 ⟨rfl, hb⟩
    have HB5 := Lib.hid (keepb HB4.out hb)
    clear hb
    go_wp2_with fail
    refine (HAC.out _).mono ?_
    rintro e w6 ⟨rfl, hb⟩
    have HB6 := Lib.hid (keepb HB5.out hb)
    clear hb
    go_wp2_with fail
    refine (wakes_yes _).mono ?_
    rintro e w7 ⟨rfl, hb⟩
    have HB7 := Lib.hid (keepb HB6.out hb)
    clear hb
    go_wp2_with fail
    refine (HBA.out _).mono ?_
    rintro e w8 ⟨rfl, hb⟩
    have HB8 := Lib.hid (keepb HB7.out hb)
    clear hb
    go_wp2_with fail
    refine (HAA.out _).mono ?_
    rintro e w9 ⟨rfl, hb⟩
    have HB9 := Lib.hid (keepb HB8.out hb)
    clear hb
    have k1 : IntKind.i64.wrap (-x) = -x := IntWalk.i64_in _ (by have := HX.out; omega)
    have k2 : (-x != -x) = false := by simp
    go_upto_region 13 with fail
    clear k1 k2
    rcases HL.out with ⟨rfl, rfl, rfl⟩ | ⟨rfl, rfl, rfl⟩ | ⟨rfl, rfl, rfl⟩ | ⟨rfl, rfl, rfl⟩ | ⟨rfl, rfl, hz⟩ | ⟨rfl, rfl, hz⟩ | ⟨rfl, rfl, hz⟩ | ⟨rfl, rfl⟩ | ⟨rfl, rfl⟩
    all_goals (try have t1 : decide (0 ≤ z) = true := decide_eq_true hz)
    all_goals (try clear hz)
    all_goals
      go_wp2_with fail
      go_ret
      exact ⟨rfl, HB9.out⟩
  · clear HBA HAA HL
    cases na <;> cases nb <;> cases nc
    all_goals (first | (exact absurd ⟨rfl, rfl, rfl⟩ hn) | skip)
    all_goals
      clear hn
      simp only [Bool.and_true, Bool.and_self, Bool.and_false, Bool.false_and, Bool.true_and, if_true, Bool.false_eq_true, if_false] at HAB HBC HAC
      refine (HAB.out _).mono ?_
      rintro e w4 ⟨rfl, hb⟩
      have HB4 := Lib.hid (keepb HB3.out hb)
      clear hb
      go_wp2_with fail
      refine (HBC.out _).mono ?_
      rintro e w5 ⟨rfl, hb⟩
      have HB5 := Lib.hid (keepb HB4.out hb)
      clear hb
      go_wp2_with fail
      refine (HAC.out _).mono ?_
      rintro e w6 ⟨rfl, hb⟩
      have HB6 := Lib.hid (keepb HB5.out hb)
      clear hb
      go_wp2_with fail
      refine (wakes_yes _).mono ?_
      rintro e w7 ⟨rfl, hb⟩
      have HB7 := Lib.hid (keepb HB6.out hb)
      clear hb HAB HBC HAC
      go_wp2_with (go_at_call 12; refine (number_yes 3 _).mono ?_; rintro e wn ⟨rfl, rfl⟩)
      go_ret
      exact ⟨rfl, HB7.out⟩
end Go.Proofs.YtjggmdlecdbeeaaDoor.decOrders
