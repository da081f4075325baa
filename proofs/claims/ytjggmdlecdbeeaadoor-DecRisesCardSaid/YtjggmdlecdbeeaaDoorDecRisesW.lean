/- The walk of DecRises. -/
import Derived.Test.YtjggmdlecdbeeaaDoorDecN
import Derived.Test.YtjggmdlecdbeeaaDoorDecV
import Derived.Test.YtjggmdlecdbeeaaDoorDecTurnsW
namespace Go.Proofs.YtjggmdlecdbeeaaDoor.decRises
open Go.RowKit
set_option linter.unusedSimpArgs false
set_option linter.unusedVariables false

theorem call_frombits (n : Nat) (w : World) :
    (callFunc 22 #[.int .u64 (n : Int)]).run Tryd.prog w = .ok (.value (.float .f64 n)) w := by
  rw [run_callFunc_extern Tryd.func22 (by kernel_rfl) (by kernel_rfl) (by kernel_rfl) (e := Extern.MathFloatBits.float64frombits) (by kernel_rfl)]
  rfl
/-- How two comparisons' results may stand. -/
theorem law {d e : Dm} (hd : Bare d) (he : Bare e) {way : Int} {x y : Nat} (hx : roundP d way = some x) (hy : roundP e way = some y) :
    (cmpD d e = -1 ∧ FloatKind.f64.format.order x y = some .lt) ∨ (cmpD d e = -1 ∧ FloatKind.f64.format.order x y = some .eq) ∨ (cmpD d e = 0 ∧ x = y ∧ FloatKind.f64.format.order x y = some .eq) ∨ (cmpD d e = 1 ∧ FloatKind.f64.format.order x y = some .gt) ∨ (cmpD d e = 1 ∧ FloatKind.f64.format.order x y = some .eq) := by
  have fin : ∀ {d : Dm} {x : Nat}, Bare d → roundP d way = some x → x % 9223372036854775808 ≤ most ∧ x < 18446744073709551616 := by
    intro d x hd hx
    by_cases h : d.2.1 = []
    · have := hd.2.1 h
      subst this
      rw [round_nought] at hx
      injection hx with hx
      subst hx
      decide
    · rw [roundP_cut (hd.lead h)] at hx
      have := endP_sv hx
      exact ⟨this.2.1, this.2.2.1⟩
  have fx := fin hd hx
  have fy := fin he hy
  have ho := order_sv fx.2 fx.1 fy.2 fy.1
  rw [ho]
  rcases cmpD_range d e with h | h | h
  · have := round_mono hd he hx hy (by omega)
    rcases Int.lt_or_eq_of_le this with k | k
    · left; rw [if_pos k]; exact ⟨h, rfl⟩
    · right; left; rw [if_neg (by omega), if_pos k]; exact ⟨h, rfl⟩
  · have := cmpD_eq hd he h
    subst this
    rw [hx] at hy
    injection hy with hy
    subst hy
    right; right; left
    rw [if_neg (by omega), if_pos rfl]
    exact ⟨h, rfl, rfl⟩
  · have := round_mono he hd hy hx (by rw [cmpD_anti]; omega)
    rcases Int.lt_or_eq_of_le this with k | k
    · right; right; right; left; rw [if_neg (by omega), if_neg (by omega)]; exact ⟨h, rfl⟩
    · right; right; right; right; rw [if_neg (by omega), if_pos k.symm]; exact ⟨h, rfl⟩

set_option maxRecDepth 100000 in
set_option maxHeartbeats 8000000 in
theorem walk (a0 a1 : ByteArray) (a2 : Int) (w : World) (w0 : a0.size ≤ maxLen) (s0 : a0.size ≤ 140737488351232) (w1 : a1.size ≤ maxLen) (s1 : a1.size ≤ 140737488351232) (w2 : (Lit.int .i64 a2).wf = true) :
    Calls Tryd.prog 6 #[.string a0, .string a1, .int .i64 a2] w fun e w' => e = .returned (.bool true) ∧ Below w.heap.size w w' := by
  obtain ⟨s, rfl⟩ := ba_list a0
  obtain ⟨t, rfl⟩ := ba_list a1
  rw [sv_len] at s0 s1
  clear w0 w1 w2
  have HLS := Lib.hid (fun W => literal_any s W (by omega))
  have HLT := Lib.hid (fun W => literal_any t W (by omega))
  have la := litOf_len s0 (by decide)
  have lb := litOf_len s1 (by decide)
  have qa := litOf_ok s
  have qb := litOf_ok t
  generalize litOf s = a at *
  generalize litOf t = b at *
  obtain ⟨U, r, hU, hm1, hm2, hr⟩ := decTurns.way_num a2
  obtain ⟨way, hway⟩ : ∃ way : Int, 1 + (r : Int) = way := ⟨_, rfl⟩
  have hwr : 1 ≤ way ∧ way ≤ 5 := by omega
  have hlaw := fun x y hx hy => law (bareP_bare a) (bareP_bare b) (way := way) (x := x) (y := y) hx hy
  have HC := Lib.hid (fun W => comp_at a b W (by omega) (by omega) qa qb _ rfl)
  have HA := Lib.hid (fun W => round_ok a way W (by omega) hwr qa)
  have HB := Lib.hid (fun W => round_ok b way W (by omega) hwr qb)
  generalize (nearP (bareP a).2.2 && nearP (bareP b).2.2) = n at *
  generalize cmpD (bareP a) (bareP b) = c at *
  generalize roundP (bareP a) way = ra at *
  generalize roundP (bareP b) way = rb at *
  have HLAW := Lib.hid hlaw
  have hrI : (r : Int) < 5 := by omega
  have hr0 : (0 : Int) ≤ (r : Int) := by omega
  have kr : IntKind.i64.wrap (r : Int) = (r : Int) := IntWalk.i64_in _ (by omega)
  clear hlaw qa qb la lb hwr s0 s1 hr
  unfold sv at *
  go_enter Tryd.func6, Tryd.ntmps6
  go_wp2_with fail
  refine (HLS.out _).mono ?_
  rintro e w1 ⟨rfl, hb⟩
  have HB1 := Lib.hid hb
  clear hb
  go_wp2_with fail
  refine (HLT.out _).mono ?_
  rintro e w2 ⟨rfl, hb⟩
  have HB2 := Lib.hid (keepb HB1.out hb)
  clear hb
  go_upto_region 3 with fail
  clear hU hm1 hm2 hway hrI hr0 kr
  cases n with
  | false =>
    simp only [Bool.false_eq_true, if_false] at HC
    clear HLAW
    obtain ⟨av, ae, hae⟩ : ∃ a er, roundV ra = .tuple #[a, er] := by cases ra <;> exact ⟨_, _, rfl⟩
    obtain ⟨bv, be, hbe⟩ : ∃ a er, roundV rb = .tuple #[a, er] := by cases rb <;> exact ⟨_, _, rfl⟩
    rw [hae] at HA
    rw [hbe] at HB
    clear hae hbe
    go_wp2_with fail
    refine (HC.out _).mono ?_
    rintro e w3 ⟨rfl, hb⟩
    have HB3 := Lib.hid (keepb HB2.out hb)
    clear hb
    go_wp2_with fail
    refine (HA.out _).mono ?_
    rintro e w4 ⟨rfl, hb⟩
    have HB4 := Lib.hid (keepb HB3.out hb)
    clear hb
    go_wp2_with fail
    refine (HB.out _).mono ?_
    rintro e w5 ⟨rfl, hb⟩
    have HB5 := Lib.hid (keepb HB4.out hb)
    clear hb
    go_wp2_with fail
    refine (wakes_yes _).mono ?_
    rintro e w6 ⟨rfl, hb⟩
    have HB6 := Lib.hid (keepb HB5.out hb)
    clear hb HA HB HC
    go_wp2_with (go_at_call 12; refine (number_yes 3 _).mono ?_; rintro e wn ⟨rfl, rfl⟩)
    go_ret
    exact ⟨rfl, HB6.out⟩
  | true =>
    simp only [if_true] at HC
    go_wp2_with fail
    refine (HC.out _).mono ?_
    rintro e w3 ⟨rfl, hb⟩
    have HB3 := Lib.hid (keepb HB2.out hb)
    clear hb
    by_cases hnone : ra = none ∨ rb = none
    · clear HLAW
      cases ra with
      | none =>
        cases rb with
        | none =>
          simp only [roundV_none] at HA HB
          clear hnone
          go_wp2_with fail
          refine (HA.out _).mono ?_
          rintro e w4 ⟨rfl, hb⟩
          have HB4 := Lib.hid (keepb HB3.out hb)
          clear hb
          go_wp2_with fail
          refine (HB.out _).mono ?_
          rintro e w5 ⟨rfl, hb⟩
          have HB5 := Lib.hid (keepb HB4.out hb)
          clear hb
          go_wp2_with fail
          refine (wakes_yes _).mono ?_
          rintro e w6 ⟨rfl, hb⟩
          have HB6 := Lib.hid (keepb HB5.out hb)
          clear hb HA HB HC
          go_wp2_with (go_at_call 12; refine (number_yes 41 _).mono ?_; rintro e wn ⟨rfl, rfl⟩)
          go_ret
          exact ⟨rfl, HB6.out⟩
        | some y =>
          simp only [roundV_none, roundV_some] at HA HB
          clear hnone
          go_wp2_with fail
          refine (HA.out _).mono ?_
          rintro e w4 ⟨rfl, hb⟩
          have HB4 := Lib.hid (keepb HB3.out hb)
          clear hb
          go_wp2_with fail
          refine (HB.out _).mono ?_
          rintro e w5 ⟨rfl, hb⟩
          have HB5 := Lib.hid (keepb HB4.out hb)
          clear hb
          go_wp2_with fail
          refine (wakes_yes _).mono ?_
          rintro e w6 ⟨rfl, hb⟩
          have HB6 := Lib.hid (keepb HB5.out hb)
          clear hb HA HB HC
          go_wp2_with (go_at_call 12; refine (number_yes 41 _).mono ?_; rintro e wn ⟨rfl, rfl⟩)
          go_ret
          exact ⟨rfl, HB6.out⟩
      | some x =>
        cases rb with
        | some y => exact absurd hnone (by simp)
        | none =>
          simp only [roundV_none, roundV_some] at HA HB
          clear hnone
          go_wp2_with fail
          refine (HA.out _).mono ?_
          rintro e w4 ⟨rfl, hb⟩
          have HB4 := Lib.hid (keepb HB3.out hb)
          clear hb
          go_wp2_with fail
          refine (HB.out _).mono ?_
          rintro e w5 ⟨rfl, hb⟩
          have HB5 := Lib.hid (keepb HB4.out hb)
          clear hb
          go_wp2_with fail
          refine (wakes_yes _).mono ?_
          rintro e w6 ⟨rfl, hb⟩
          have HB6 := Lib.hid (keepb HB5.out hb)
          clear hb HA HB HC
          go_wp2_with (go_at_call 12; refine (number_yes 41 _).mono ?_; rintro e wn ⟨rfl, rfl⟩)
          go_ret
          exact ⟨rfl, HB6.out⟩
    · obtain ⟨x, rfl⟩ : ∃ x, ra = some x := by cases ra with
        | none => exact absurd (.inl rfl) hnone
        | some x => exact ⟨x, rfl⟩
      obtain ⟨y, rfl⟩ : ∃ y, rb = some y := by cases rb with
        | none => exact absurd (.inr rfl) hnone
        | some x => exact ⟨x, rfl⟩
      clear hnone
      simp only [roundV_some] at HA HB
      go_wp2_with fail
      refine (HA.out _).mono ?_
      rintro e w4 ⟨rfl, hb⟩
      have HB4 := Lib.hid (keepb HB3.out hb)
      clear hb
      go_wp2_with fail
      refine (HB.out _).mono ?_
      rintro e w5 ⟨rfl, hb⟩
      have HB5 := Lib.hid (keepb HB4.out hb)
      clear hb
      go_wp2_with fail
      refine (wakes_yes _).mono ?_
      rintro e w6 ⟨rfl, hb⟩
      have HB6 := Lib.hid (keepb HB5.out hb)
      clear hb HA HB HC
      have fb := call_frombits
      have hl := HLAW.out x y rfl rfl
      clear HLAW
      rcases hl with ⟨rfl, ho⟩ | ⟨rfl, ho⟩ | ⟨rfl, rfl, ho⟩ | ⟨rfl, ho⟩ | ⟨rfl, ho⟩
      all_goals
        go_wp2_with fail
        go_ret
        exact ⟨rfl, HB6.out⟩
end Go.Proofs.YtjggmdlecdbeeaaDoor.decRises
