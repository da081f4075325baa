/- The contracts of the reference's Wrong, Right, Held. -/
import Derived.Test.YtmdgopclcdmenaaUtfD
namespace Go.Proofs.Ytmdgopclcdmenaa
open Go.RowKit
set_option linter.unusedSimpArgs false
set_option linter.unusedVariables false

theorem ch_ok (s : List UInt8) (i : Nat) (h : (chAt s i).e = 0) : chAt s i = ⟨(chAt s i).r, (chAt s i).n, 0, 0⟩ := by
  rcases chAt_spec s i with ⟨h1, _, _, h4, _⟩ | ⟨h1, _⟩ | ⟨h1, _⟩
  · generalize chAt s i = c at *
    obtain ⟨r, n, e, p⟩ := c
    simp only at h1 h4
    subst h1 h4
    rfl
  · omega
  · omega
theorem ch_bad (s : List UInt8) (i : Nat) (h : (chAt s i).e ≠ 0) : chAt s i = ⟨0, 0, (chAt s i).e, (chAt s i).p⟩ := by
  rcases chAt_spec s i with ⟨h1, _⟩ | ⟨_, h2, h3, _⟩ | ⟨_, h2, h3, _⟩
  · omega
  all_goals
    generalize chAt s i = c at *
    obtain ⟨r, n, e, p⟩ := c
    simp only at h2 h3
    subst h2 h3
    rfl
theorem ch_pos (s : List UInt8) (i : Nat) (h : (chAt s i).e = 0) : 0 < (chAt s i).n := by
  rcases chAt_spec s i with ⟨_, h1, _⟩ | ⟨h1, _⟩ | ⟨h1, _⟩ <;> omega

set_option maxRecDepth 100000 in
set_option maxHeartbeats 1000000 in
theorem rwrong_any (s : List UInt8) (w : World) (hn : s.length ≤ 1000000000000000) :
    Calls Try.prog 36 #[.string ⟨s.toArray⟩] w fun e w' => e = .returned (.tuple #[.int .i64 ((wrong s).1 : Nat), .int .i64 ((wrong s).2 : Nat)]) ∧ w = w' := by
  go_enter Try.func36, Try.ntmps36
  go_wp2
  go_loop [4] (fun k => ∃ i : Nat, i ≤ s.length ∧ k = .int .i64 i ∧ wrong s = wrongF s i) (fun k => s.length - (intOf k).toNat)
  case atStart => exact ⟨0, by omega, rfl, rfl⟩
  case round =>
    obtain ⟨i, hi, rfl, hw⟩ := hrel
    have HW := Lib.hid hw
    clear hw
    by_cases hlt : i < s.length
    · have HAT := Lib.hid (fun W => rat_any s i W hlt (by omega))
      have hle := chAt_len hlt
      by_cases he : (chAt s i).e = 0
      · rw [at_ok (ch_ok s i he)] at HAT
        have hwo := wrongF_on hlt he
        have hpos := ch_pos s i he
        have HWO := Lib.hid hwo
        clear hwo he
        generalize (chAt s i).n = n at *
        generalize (chAt s i).r = r at *
        go_wp2_with (go_at_call 29; (with_reducible refine (HAT.out _).mono ?_); rintro e w' ⟨rfl, rfl⟩)
        go_round
        case rel => exact ⟨i + n, hle, by go_num, by rw [HW.out, HWO.out]⟩
        case measure => simp [intOf]; omega
      · rw [at_bad (ch_bad s i he)] at HAT
        have hwo := wrongF_bad hlt he
        have HWO := Lib.hid (HW.out.trans hwo)
        have hne : (((chAt s i).e : Int) != 0) = true := by rw [bne_iff_ne]; omega
        clear hwo he HW
        generalize (chAt s i).e = x at *
        generalize (chAt s i).p = p at *
        go_wp2_with (go_at_call 29; (with_reducible refine (HAT.out _).mono ?_); rintro e w' ⟨rfl, rfl⟩)
        go_ret2
        exact ⟨by rw [HWO.out]; rfl, rfl⟩
    · have hwo := wrongF_end (s := s) (i := i) (by omega)
      have HWO := Lib.hid (HW.out.trans hwo)
      clear hwo HW
      go_wp2
      go_ret2
      exact ⟨by rw [HWO.out]; rfl, rfl⟩

theorem rright_any (s : List UInt8) (w : World) (hn : s.length ≤ 1000000000000000) :
    Calls Try.prog 25 #[.string ⟨s.toArray⟩] w fun e w' => e = .returned (.bool (right s)) ∧ w = w' := by
  have HW := Lib.hid (fun W => rwrong_any s W hn)
  by_cases h : (wrong s).1 = 0
  · have hr : right s = true := by simp [right, h]
    rw [hr]
    rw [h] at HW
    clear h hr
    go_enter Try.func25, Try.ntmps25
    go_wp2_with (go_at_call 36; (with_reducible refine (HW.out _).mono ?_); rintro e w' ⟨rfl, rfl⟩)
    go_ret
    exact ⟨rfl, rfl⟩
  · have hr : right s = false := by simp [right, h]
    have hne : (((wrong s).1 : Int) == 0) = false := by simpa using h
    rw [hr]
    clear h hr
    generalize (wrong s).1 = x at *
    go_enter Try.func25, Try.ntmps25
    go_wp2_with (go_at_call 36; (with_reducible refine (HW.out _).mono ?_); rintro e w' ⟨rfl, rfl⟩)
    go_ret
    exact ⟨rfl, rfl⟩

set_option maxRecDepth 100000 in
set_option maxHeartbeats 1000000 in
theorem rheld_any (s : List UInt8) (w : World) (hn : s.length ≤ 1000000000000000) :
    Calls Try.prog 60 #[.string ⟨s.toArray⟩] w fun e w' => e = .returned (.int .i64 (heldF s 0 : Nat)) ∧ w = w' := by
  go_enter Try.func60, Try.ntmps60
  go_wp2
  go_loop [3] (fun k => ∃ i : Nat, i ≤ s.length ∧ k = .int .i64 i ∧ heldF s 0 = heldF s i) (fun k => s.length - (intOf k).toNat)
  case atStart => exact ⟨0, by omega, rfl, rfl⟩
  case round =>
    obtain ⟨i, hi, rfl, hw⟩ := hrel
    have HW := Lib.hid hw
    clear hw
    by_cases hlt : i < s.length
    · have HAT := Lib.hid (fun W => rat_any s i W hlt (by omega))
      have hle := chAt_len hlt
      by_cases he : (chAt s i).e = 0
      · rw [at_ok (ch_ok s i he)] at HAT
        have hwo := heldF_on hlt he
        have hpos := ch_pos s i he
        have HWO := Lib.hid hwo
        clear hwo he
        generalize (chAt s i).n = n at *
        generalize (chAt s i).r = r at *
        go_wp2_with (go_at_call 29; (with_reducible refine (HAT.out _).mono ?_); rintro e w' ⟨rfl, rfl⟩)
        go_round
        case rel => exact ⟨i + n, hle, by go_num, by rw [HW.out, HWO.out]⟩
        case measure => simp [intOf]; omega
      · rw [at_bad (ch_bad s i he)] at HAT
        have hwo := heldF_bad hlt he
        have HWO := Lib.hid (HW.out.trans hwo)
        have hne : (((chAt s i).e : Int) != 0) = true := by rw [bne_iff_ne]; omega
        clear hwo he HW
        generalize (chAt s i).e = x at *
        generalize (chAt s i).p = p at *
        go_wp2_with (go_at_call 29; (with_reducible refine (HAT.out _).mono ?_); rintro e w' ⟨rfl, rfl⟩)
        go_ret
        exact ⟨by rw [HWO.out, show ((s.length - i : Nat) : Int) = (s.length : Int) - i by omega]; rfl, rfl⟩
    · have hwo := heldF_end (s := s) (i := i) (by omega)
      have HWO := Lib.hid (HW.out.trans hwo)
      clear hwo HW
      go_wp2
      go_ret
      exact ⟨by rw [HWO.out]; rfl, rfl⟩
end Go.Proofs.Ytmdgopclcdmenaa
