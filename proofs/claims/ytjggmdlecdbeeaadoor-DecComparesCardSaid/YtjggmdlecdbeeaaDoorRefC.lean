/- The reference of decimals: the walks of Near, Sign, Compare; the plain law of a literal without its minus. -/
import Derived.Test.YtjggmdlecdbeeaaDoorRefB
import Derived.WalkLawsBesides
namespace Go.Proofs.YtjggmdlecdbeeaaDoor
open Go.RowKit
set_option linter.unusedSimpArgs false
set_option linter.unusedVariables false
attribute [local go_sem] SGives_value SGives_skip SGives_enter

theorem rnear_any (x : Int) (w : World) :
    Calls Tryd.prog 19 #[.int .i64 x] w fun e w' => e = .returned (.bool (nearP x)) ∧ w = w' := by
  by_cases h1 : -1099511627776 ≤ x
  · by_cases h2 : x ≤ 1099511627776
    · have h : nearP x = true := decide_eq_true ⟨h1, h2⟩
      rw [h]
      have t1 : decide (-1099511627776 ≤ x) = true := decide_eq_true h1
      have t2 : decide (x ≤ 1099511627776) = true := decide_eq_true h2
      clear h1 h2 h
      go_enter Tryd.func19, Tryd.ntmps19
      go_wp2
      go_ret
      exact ⟨rfl, rfl⟩
    · have h : nearP x = false := decide_eq_false (fun h => h2 h.2)
      rw [h]
      have t1 : decide (-1099511627776 ≤ x) = true := decide_eq_true h1
      have t2 : decide (x ≤ 1099511627776) = false := decide_eq_false h2
      clear h1 h2 h
      go_enter Tryd.func19, Tryd.ntmps19
      go_wp2
      go_ret
      exact ⟨rfl, rfl⟩
  · have h : nearP x = false := decide_eq_false (fun h => h1 h.1)
    rw [h]
    have t1 : decide (-1099511627776 ≤ x) = false := decide_eq_false h1
    clear h1 h
    go_enter Tryd.func19, Tryd.ntmps19
    go_wp2
    go_ret
    exact ⟨rfl, rfl⟩
set_option maxRecDepth 100000 in
theorem rsign_any (d : Dm) (w : World) :
    Calls Tryd.prog 47 #[decV d] w fun e w' => e = .returned (.int .i64 (signP d)) ∧ Below w.heap.size w w' := by
  obtain ⟨g, l, x⟩ := d
  unfold decV sv
  by_cases hl : l = []
  · have HP := Lib.hid (show signP (g, l, x) = 0 by unfold signP; rw [if_pos hl])
    subst hl
    go_enter Tryd.func47, Tryd.ntmps47
    go_wp2
    go_ret
    exact ⟨by rw [HP.out] <;> rfl, by go_grown⟩
  · have hp : 0 < l.length := List.length_pos_iff.2 hl
    have u3 : (((l.length : Nat) : Int) == 0) = false := by rw [beq_eq_false_iff_ne]; omega
    have u4 : (l.length == 0) = false := by rw [beq_eq_false_iff_ne]; omega
    cases g with
    | true =>
      have HP := Lib.hid (show signP (true, l, x) = -1 by unfold signP; rw [if_neg hl]; rfl)
      clear hl hp
      go_enter Tryd.func47, Tryd.ntmps47
      go_wp2
      go_ret
      exact ⟨by rw [HP.out] <;> rfl, by go_grown⟩
    | false =>
      have HP := Lib.hid (show signP (false, l, x) = 1 by unfold signP; rw [if_neg hl]; rfl)
      clear hl hp
      go_enter Tryd.func47, Tryd.ntmps47
      go_wp2
      go_ret
      exact ⟨by rw [HP.out] <;> rfl, by go_grown⟩

/-- A literal without its minus. -/
def bodyL (s : List UInt8) : List UInt8 := if negP s then s.tail else s
structure Body (s r : List UInt8) : Prop where
  ok : wrongP r = none
  p0 : p0 r = 0
  d0 : dAt r 0 = true
  le : r.length ≤ s.length
  neg : negP s = true → s = 45 :: r
  pos : negP s = false → s = r
  bare : bareP s = stripD (negP s, wholeP r ++ behindP r, (if underP r then -(capE (expP r) : Int) else (capE (expP r) : Int)) - (behindP r).length)
  i1 : ov r 0 = p1 r
theorem valid_d0 {r : List UInt8} (h : wrongP r = none) : dAt r (p0 r) = true := by
  unfold wrongP at h
  cases hd : dAt r (p0 r) with
  | true => rfl
  | false => rw [if_pos hd] at h; cases h
theorem valid_pt {r : List UInt8} (h : wrongP r = none) (hp : pt r = true) : dAt r (p1 r + 1) = true := by
  have h0 := valid_d0 h
  unfold wrongP at h
  rw [if_neg (by rw [h0]; simp)] at h
  cases hd : dAt r (p1 r + 1) with
  | true => rfl
  | false => rw [if_pos ⟨hp, hd⟩] at h; cases h
theorem valid_e {r : List UInt8} (h : wrongP r = none) : (hasE r = true → dAt r (p3 r) = true) ∧ r.length ≤ p4 r := by
  have h0 := valid_d0 h
  have h1 := valid_pt h
  unfold wrongP at h
  rw [if_neg (by rw [h0]; simp), if_neg (fun k => by rw [h1 k.1] at k; exact absurd k.2 (by simp))] at h
  split at h
  · cases h
  · rename_i hn
    refine ⟨fun he => ?_, ?_⟩
    · cases hd : dAt r (p3 r) with
      | true => rfl
      | false => exact absurd ⟨he, hd⟩ hn
    · split at h
      · cases h
      · omega
theorem valid_nought {r : List UInt8} (h : wrongP r = none) (hp : p0 r = 0) : ov r 0 = p1 r := by
  unfold p1
  rw [hp]
  split
  · rename_i h48
    have h0 : dAt r 0 = true := by have := valid_d0 h; rwa [hp] at this
    rw [ov_yes h0]
    rw [ov_no]
    cases hd : dAt r (0 + 1) with
    | false => rfl
    | true =>
      exfalso
      have hp1 : p1 r = 1 := by unfold p1; rw [hp, if_pos h48]
      have hl := dAt_lt hd
      have hg := dAt_get hl
      rw [hd] at hg
      have hne : ∀ c : UInt8, isD c = false → (r[1]? == some c) = false := by
        intro c hc
        rw [List.getElem?_eq_getElem hl]
        rw [beq_eq_false_iff_ne]
        intro hh
        injection hh with hh
        rw [hh, hc] at hg
        cases hg
      have hpt : pt r = false := by unfold pt; rw [hp1]; exact hne 46 (by decide)
      have hp2 : p2 r = 1 := by unfold p2; rw [hpt]; exact hp1
      have he : hasE r = false := by unfold hasE; rw [hp2, hne 101 (by decide), hne 69 (by decide)]; rfl
      have hp4 : p4 r = 1 := by unfold p4; rw [he]; exact hp2
      have := (valid_e h).2
      omega
  · rfl
theorem bodyL_ok {s : List UInt8} (h : wrongP s = none) : Body s (bodyL s) := by
  unfold bodyL
  cases hn : negP s with
  | true =>
    cases s with
    | nil => cases hn
    | cons c r =>
      have hc : c = 45 := by
        unfold negP at hn
        simpa using hn
      subst hc
      simp only [if_true, List.tail_cons]
      have hr : r[0]? ≠ some 45 := by
        intro hr
        have hd := valid_d0 h
        have hp : p0 (45 :: r) = 1 := by unfold p0; rw [if_pos (by rfl)]
        rw [hp, dAt_s 0] at hd
        unfold dAt at hd
        rw [hr] at hd
        cases hd
      have hok : wrongP r = none := by
        rw [wrongP_s hr] at h
        cases hh : wrongP r with
        | none => rfl
        | some q => rw [hh] at h; cases h
      have hp0 : p0 r = 0 := by unfold p0; rw [if_neg hr]
      refine ⟨hok, hp0, by have := valid_d0 hok; rwa [hp0] at this, by simp, (fun _ => rfl), (fun k => by rw [hn] at k; cases k), ?_, valid_nought hok hp0⟩
      show stripD (negP (45 :: r), wholeP (45 :: r) ++ behindP (45 :: r), _) = _
      rw [wholeP_s hr, behindP_s hr, underP_s hr, expP_s hr]
  | false =>
    simp only [Bool.false_eq_true, if_false]
    have hp0 : p0 s = 0 := by unfold negP at hn; unfold p0; rw [if_neg (by simpa using hn)]
    exact ⟨h, hp0, by have := valid_d0 h; rwa [hp0] at this, Nat.le_refl _, (fun k => by rw [hn] at k; cases k), (fun _ => rfl), rfl, valid_nought h hp0⟩
end Go.Proofs.YtjggmdlecdbeeaaDoor
