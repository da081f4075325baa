/- The document's natural numbers: the place of the first byte that is no digit. -/
import Derived.Test.YtgihkmofpncobaaDoorNRH
namespace Go.Proofs.YtgihkmofpncobaaDoor
open Go.RowKit
set_option linter.unusedSimpArgs false
set_option linter.unusedVariables false

/-- What Wrong answers: a place, or -1. -/
def wrongI (s : List UInt8) : Int := match wrongV s with | some i => (i : Int) | none => -1
theorem wrongI_some {s : List UInt8} {i : Nat} (h : wrongV s = some i) : wrongI s = (i : Int) := by unfold wrongI; rw [h]
theorem wrongI_none {s : List UInt8} (h : wrongV s = none) : wrongI s = -1 := by unfold wrongI; rw [h]
set_option maxRecDepth 100000 in
theorem rtwrong_any (s : List UInt8) (w : World) (hs : s.length ≤ 1000000000000000) :
    Calls Tryd.prog 19 #[.string ⟨s.toArray⟩] w fun e w' => e = .returned (.int .i64 (wrongI s)) ∧ Below w.heap.size w w' := by
  by_cases h0 : s = []
  · subst h0
    rw [show wrongI [] = 0 from rfl]
    go_enter Tryd.func19, Tryd.ntmps19
    go_wp2_with fail
    exact bodyPost_ret (v := .int .i64 0) (by simp [results, Tryd.results19, go_sem]) rfl ⟨rfl, by go_grown⟩
  have hpos : 0 < s.length := List.length_pos_iff.2 h0
  have hw0 : wrongV s = wrongAt s := by unfold wrongV; rw [if_neg h0]
  have HW := Lib.hid hw0
  have tz : ((s.length : Int) == 0) = false := by simp; exact h0
  have tz' : (s.length == 0) = false := by simp; exact h0
  clear hw0 h0
  go_enter Tryd.func19, Tryd.ntmps19
  go_wp2_with fail
  go_loop [3] (fun s3 => ∃ j : Nat, s3 = .int .i64 j ∧ j ≤ s.length ∧ ∀ k (h : k < s.length), k < j → isD s[k] = true) (fun s3 => s.length - (intOf s3).toNat)
  case atStart => exact ⟨0, rfl, by omega, fun k _ h => absurd h (by omega)⟩
  case round =>
    obtain ⟨j, rfl, hj, hall⟩ := hrel
    have HALL := Lib.hid hall
    clear hall
    by_cases hlt : j < s.length
    · have hb := dn_get s j hlt
      have hD := isD_dn s j hlt
      have hx := dn_lt s j
      have HD := Lib.hid hD
      clear hD
      generalize dn s j = x at *
      have t0 : decide ((j : Int) < s.length) = true := by simp; omega
      have t0' : decide (j < s.length) = true := by simp; omega
      by_cases hd : 48 ≤ x ∧ x ≤ 57
      · have HM : Hid (∀ k (h : k < s.length), k < j + 1 → isD s[k] = true) := fun k h hk => by
          rcases Nat.lt_or_ge k j with h1 | h1
          · exact HALL.out k h h1
          · obtain rfl : k = j := by omega
            rw [HD.out]; simpa using hd
        obtain ⟨h48, h57⟩ := hd
        have t1 : decide ((x : Int) < 48) = false := by simp; omega
        have t2 : decide ((57 : Int) < x) = false := by simp; omega
        go_wp2_with fail
        go_round
        case rel => exact ⟨j + 1, by go_num, by omega, HM.out⟩
        case measure => simp [intOf]; omega
      · have hij : wrongV s = some j := by
          rw [HW.out]
          exact wrongAt_some hlt (fun k h hk => HALL.out k h hk) (by rw [HD.out]; simpa using hd)
        have HIJ := Lib.hid (wrongI_some hij)
        have hor : decide ((x : Int) < 48) = true ∨ (decide ((x : Int) < 48) = false ∧ decide ((57 : Int) < x) = true) := by
          by_cases h : x < 48
          · left; simp; omega
          · right; exact ⟨by simp; omega, by simp; omega⟩
        clear hd hij
        rcases hor with t1 | ⟨t1, t2⟩
        all_goals
          go_wp2_with fail
          exact bodyPost_ret (v := .int .i64 j) (by simp [results, Tryd.results19, go_sem]) rfl ⟨by rw [HIJ.out], by go_grown⟩
    · obtain rfl : j = s.length := by omega
      have hse : wrongV s = none := by
        rw [HW.out]
        exact wrongAt_none.2 (fun c hc => by obtain ⟨k, hk, rfl⟩ := List.mem_iff_getElem.1 hc; exact HALL.out k hk hk)
      have HIJ := Lib.hid (wrongI_none hse)
      have t0 : decide ((s.length : Int) < s.length) = false := by simp
      have t0' : decide (s.length < s.length) = false := by simp
      clear hlt hse
      go_wp2_with fail
      exact bodyPost_ret (v := .int .i64 (-1)) (by simp [results, Tryd.results19, go_sem]) rfl ⟨by rw [HIJ.out], by go_grown⟩
end Go.Proofs.YtgihkmofpncobaaDoor
