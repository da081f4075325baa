/- The contracts of the reference's Encode and At. -/
import Derived.Test.YtmdgopclcdmenaaUtfB
namespace Go.Proofs.Ytmdgopclcdmenaa
open Go.RowKit
set_option linter.unusedSimpArgs false
set_option linter.unusedVariables false

theorem ei_u8 : EI Try.prog 22 5 (.int .u8 0) 1 := ⟨Try.underlying22, info_parts info_u8, rfl, rfl⟩
theorem codeK_le (s : List UInt8) (i n : Nat) : ∀ k, codeK s i n k ≤ 260 * 64 ^ k - 4
  | 0 => by
    have := bt_lt s i
    show c0 (bt s i) n ≤ 260 * 1 - 4
    unfold c0
    (repeat' split) <;> omega
  | k + 1 => by
    have h1 := codeK_le s i n k
    have h2 := bt_lt s (i + (k + 1))
    have h3 : 0 < 64 ^ k := Nat.pow_pos (by decide)
    show 64 * codeK s i n k + bt s (i + (k + 1)) - 128 ≤ 260 * (64 ^ k * 64) - 4
    omega
theorem codeK_bd (s : List UInt8) (i n k : Nat) (h : k ≤ 3) : codeK s i n k ≤ 68157440 := by
  have h1 := codeK_le s i n k
  have h2 : 64 ^ k ≤ 64 ^ 3 := Nat.pow_le_pow_right (by decide) h
  omega

theorem bget (s : List UInt8) (i : Nat) (h : i < s.length) : ((⟨s.toArray⟩ : ByteArray)[i]'h).toNat = bt s i := (bt_get s i h).symm
def AtV (c : Ch) : Value := .tuple #[.int .i32 (c.r : Nat), .int .i64 (c.n : Nat), .int .i64 (c.e : Nat), .int .i64 (c.p : Nat)]
theorem at_bad {s : List UInt8} {i x p : Nat} (h : chAt s i = ⟨0, 0, x, p⟩) : AtV (chAt s i) = .tuple #[.int .i32 0, .int .i64 0, .int .i64 x, .int .i64 p] := by rw [h]; rfl
theorem at_ok {s : List UInt8} {i r n : Nat} (h : chAt s i = ⟨r, n, 0, 0⟩) : AtV (chAt s i) = .tuple #[.int .i32 r, .int .i64 n, .int .i64 0, .int .i64 0] := by rw [h]; rfl

set_option maxRecDepth 100000 in
set_option maxHeartbeats 1000000 in
/-- The reference's At. -/
theorem rat_any (s : List UInt8) (i : Nat) (w : World) (hi : i < s.length) (hn : s.length ≤ 1000000000000000000) :
    Calls Try.prog 29 #[.string ⟨s.toArray⟩, .int .i64 i] w fun e w' => e = .returned (AtV (chAt s i)) ∧ w = w' := by
  have hb0 := bget s i hi
  have hlt := bt_lt s i
  have hw := wd_le (bt s i)
  by_cases h0 : wd (bt s i) = 0
  · rw [at_bad (chAt_none h0)]
    have HW := Lib.hid (fun W => wide_any (bt s i) W hlt)
    rw [h0] at HW
    clear hw h0
    generalize bt s i = c0 at *
    go_enter Try.func29, Try.ntmps29
    go_wp2_with (go_at_call 52; (with_reducible refine (HW.out _).mono ?_); rintro e w1 ⟨rfl, rfl⟩)
    exact bodyPost_ret (v := .tuple #[.int .i32 0, .int .i64 0, .int .i64 30, .int .i64 i]) (by simp [results, Try.results29, go_sem]) rfl ⟨rfl, rfl⟩
  have hcases : wd (bt s i) = 1 ∨ wd (bt s i) = 2 ∨ wd (bt s i) = 3 ∨ wd (bt s i) = 4 := by omega
  clear hw h0
  rcases hcases with hm | hm | hm | hm
  · have HW := Lib.hid (fun W => wide_any (bt s i) W hlt)
    rw [hm] at HW
    have HM := Lib.hid hm
    clear hm
    obtain ⟨b0, hbe⟩ : ∃ b0, b0 = bt s i := ⟨_, rfl⟩
    rw [← hbe] at hb0 hlt HW
    have HBE := Lib.hid hbe
    clear hbe
    go_enter Try.func29, Try.ntmps29
    go_wp2_with (go_at_call 52; (with_reducible refine (HW.out _).mono ?_); rintro e w1 ⟨rfl, rfl⟩)
    go_loop [9, 10] (fun k c => ∃ j : Nat, 1 ≤ j ∧ j ≤ 1 ∧ k = .int .i64 j ∧ firstBad s i 1 1 = firstBad s i 1 j) (fun k _ => 1 - (intOf k).toNat)
    case atStart => exact ⟨1, by omega, by omega, rfl, rfl⟩
    case round =>
      obtain ⟨j, hj1, hjm, rfl, hfb⟩ := hrel
      have HFB := Lib.hid hfb
      clear hfb
      obtain rfl : j = 1 := by omega
      have hce : chAt s i = ⟨code s i 1, 1, 0, 0⟩ := chAt_ok HM.out (by omega) (firstBad_end (Nat.le_refl _))
      rw [code1, ← HBE.out] at hce
      have HCE := Lib.hid hce
      clear hce
      go_wp2
      go_loop [11, 12] (fun x k => x = .int .i64 b0 ∧ k = .int .i64 1) (fun _ k => 0)
      case atStart => exact ⟨rfl, rfl⟩
      case round =>
        obtain ⟨rfl, rfl⟩ := hrel
        go_wp2
        exact bodyPost_ret (v := .tuple #[.int .i32 b0, .int .i64 1, .int .i64 0, .int .i64 0]) (by simp [results, Try.results29, go_sem]) rfl ⟨by rw [at_ok HCE.out]; rfl, rfl⟩
  · have HW := Lib.hid (fun W => wide_any (bt s i) W hlt)
    rw [hm] at HW
    have HM := Lib.hid hm
    clear hm
    obtain ⟨b0, hbe⟩ : ∃ b0, b0 = bt s i := ⟨_, rfl⟩
    rw [← hbe] at hb0 hlt HW
    have HBE := Lib.hid hbe
    clear hbe
    go_enter Try.func29, Try.ntmps29
    go_wp2_with (go_at_call 52; (with_reducible refine (HW.out _).mono ?_); rintro e w1 ⟨rfl, rfl⟩)
    go_loop [9, 10] (fun k c => ∃ j : Nat, 1 ≤ j ∧ j ≤ 2 ∧ k = .int .i64 j ∧ firstBad s i 2 1 = firstBad s i 2 j) (fun k _ => 2 - (intOf k).toNat)
    case atStart => exact ⟨1, by omega, by omega, rfl, rfl⟩
    case round =>
      obtain ⟨j, hj1, hjm, rfl, hfb⟩ := hrel
      have HFB := Lib.hid hfb
      clear hfb
      by_cases hjlt : j < 2
      · by_cases hend : i + j < s.length
        · have hbj := bget s (i + j) hend
          have hdl := bt_lt s (i + j)
          by_cases hok : okb (bt s i) j (bt s (i + j)) = true
          · have hst := firstBad_on (s := s) (i := i) (n := 2) (k := j) hjlt hend hok
            have HST := Lib.hid hst
            have hcont := okb_cont hok
            by_cases hj : j = 1
            · subst hj
              have HS := Lib.hid (fun W => second_any (bt s i) (bt s (i + 1)) W (bt_lt s i) hdl)
              rw [secB_ok, hok, ← HBE.out] at HS
              clear hst hok
              generalize bt s (i + 1) = d at *
              go_wp2_with (go_at_call 53; (with_reducible refine (HS.out _).mono ?_); rintro e w1 ⟨rfl, rfl⟩)
              go_round
              case rel => exact ⟨1 + 1, by omega, by omega, by go_num, by rw [HST.out]⟩
              case measure => simp [intOf]
            · have e1 : ((j : Int) == 1) = false := by simp; omega
              clear hst hok
              generalize bt s (i + j) = d at *
              try (exfalso; omega)
              all_goals
                go_wp2
                go_round
                case rel => exact ⟨j + 1, by omega, by omega, by go_num, by rw [HFB.out, HST.out]⟩
                case measure => simp [intOf]; omega
          · have hce : chAt s i = ⟨0, 0, 30, i + j⟩ := chAt_byte (n := 2) HM.out (by omega) (by rw [HFB.out]; exact firstBad_here hjlt (fun h => hok h.2)) hjlt hend
            have HCE := Lib.hid hce
            clear hce
            by_cases hj : j = 1
            · subst hj
              have hok' : okb (bt s i) 1 (bt s (i + 1)) = false := by simpa using hok
              have HS := Lib.hid (fun W => second_any (bt s i) (bt s (i + 1)) W (bt_lt s i) hdl)
              rw [secB_ok, hok', ← HBE.out] at HS
              clear hok hok'
              generalize bt s (i + 1) = d at *
              go_wp2_with (go_at_call 53; (with_reducible refine (HS.out _).mono ?_); rintro e w1 ⟨rfl, rfl⟩)
              exact bodyPost_ret (v := .tuple #[.int .i32 0, .int .i64 0, .int .i64 30, .int .i64 ((i : Int) + 1)]) (by simp [results, Try.results29, go_sem]) rfl ⟨by rw [at_bad HCE.out]; rfl, rfl⟩
            · have e1 : ((j : Int) == 1) = false := by simp; omega
              have hd : bt s (i + j) < 128 ∨ 191 < bt s (i + j) := by
                rcases Nat.lt_or_ge (bt s (i + j)) 128 with h | h
                · exact .inl h
                · rcases Nat.lt_or_ge 191 (bt s (i + j)) with h2 | h2
                  · exact .inr h2
                  · exact absurd (by unfold okb; rw [if_neg hj]; exact decide_eq_true ⟨h, h2⟩) hok
              clear hok
              generalize bt s (i + j) = d at *
              try (exfalso; omega)
              all_goals rcases hd with hd | hd
              all_goals
                go_wp2
                exact bodyPost_ret (v := .tuple #[.int .i32 0, .int .i64 0, .int .i64 30, .int .i64 ((i : Int) + j)]) (by simp [results, Try.results29, go_sem]) rfl ⟨by rw [at_bad HCE.out]; rfl, rfl⟩
        · have hce : chAt s i = ⟨0, 0, 31, s.length⟩ := chAt_cut (n := 2) HM.out (by omega) (by rw [HFB.out]; exact firstBad_here hjlt (fun h => hend h.1)) hjlt hend
          have HCE := Lib.hid hce
          clear hce
          go_wp2
          exact bodyPost_ret (v := .tuple #[.int .i32 0, .int .i64 0, .int .i64 31, .int .i64 s.length]) (by simp [results, Try.results29, go_sem]) rfl ⟨by rw [at_bad HCE.out]; rfl, rfl⟩
      · obtain rfl : j = 2 := by omega
        have hfb := HFB.out
        rw [firstBad_end (Nat.le_refl _)] at hfb
        have hce : chAt s i = ⟨code s i 2, 2, 0, 0⟩ := chAt_ok HM.out (by omega) hfb
        have hall := (firstBad_spec s i 2 1 (by omega)).2.2.1
        rw [hfb] at hall
        have HCE := Lib.hid hce
        have HALL := Lib.hid hall
        have hb192 : 192 ≤ b0 := by
          have := HM.out
          rw [← HBE.out] at this
          unfold wd at this
          (repeat' split at this) <;> omega
        have hc0 : codeK s i 2 0 = b0 - 192 := by rw [HBE.out]; rfl
        have HC0 := Lib.hid hc0
        clear hce hall hfb hc0
        go_wp2
        go_loop [11, 12] (fun x k => ∃ j q : Nat, j = q + 1 ∧ j ≤ 2 ∧ k = .int .i64 j ∧ x = .int .i64 (codeK s i 2 q : Nat)) (fun _ k => 2 - (intOf k).toNat)
        case atStart => exact ⟨1, 0, rfl, by omega, rfl, by rw [HC0.out]; congr 1; omega⟩
        case round =>
          obtain ⟨j, q, hjq, hj, rfl, rfl⟩ := hrel
          have HJQ := Lib.hid hjq
          have hj1 : 1 ≤ j := by omega
          have hbd := codeK_bd s i 2 q (by omega)
          clear hjq
          by_cases hlt2 : j < 2
          · obtain ⟨hl2, hok2⟩ := HALL.out j hj1 hlt2
            have hbj := bget s (i + j) hl2
            have hco := okb_cont hok2
            have hst : codeK s i 2 j = 64 * codeK s i 2 q + bt s (i + j) - 128 := by rw [HJQ.out]; rfl
            have HST := Lib.hid hst
            clear hok2 hst
            generalize bt s (i + j) = d at *
            generalize codeK s i 2 q = x at *
            go_wp2
            go_round
            case rel => exact ⟨j + 1, j, rfl, by omega, by go_num, by rw [HST.out]; congr 1; omega⟩
            case measure => simp [intOf]; omega
          · obtain rfl : j = 2 := by omega
            obtain rfl : q = 2 - 1 := by have := HJQ.out; omega
            have hx : ((codeK s i 2 (2 - 1) : Nat) : Int) ≤ 68157440 := by omega
            have HX : Hid (chAt s i = ⟨codeK s i 2 (2 - 1), 2, 0, 0⟩) := HCE.out
            clear hbd hlt2 hj hj1 HJQ
            generalize codeK s i 2 (2 - 1) = x at *
            go_wp2
            exact bodyPost_ret (v := .tuple #[.int .i32 x, .int .i64 2, .int .i64 0, .int .i64 0]) (by simp [results, Try.results29, go_sem]) rfl ⟨by rw [at_ok HX.out]; rfl, rfl⟩
  · have HW := Lib.hid (fun W => wide_any (bt s i) W hlt)
    rw [hm] at HW
    have HM := Lib.hid hm
    clear hm
    obtain ⟨b0, hbe⟩ : ∃ b0, b0 = bt s i := ⟨_, rfl⟩
    rw [← hbe] at hb0 hlt HW
    have HBE := Lib.hid hbe
    clear hbe
    go_enter Try.func29, Try.ntmps29
    go_wp2_with (go_at_call 52; (with_reducible refine (HW.out _).mono ?_); rintro e w1 ⟨rfl, rfl⟩)
    go_loop [9, 10] (fun k c => ∃ j : Nat, 1 ≤ j ∧ j ≤ 3 ∧ k = .int .i64 j ∧ firstBad s i 3 1 = firstBad s i 3 j) (fun k _ => 3 - (intOf k).toNat)
    case atStart => exact ⟨1, by omega, by omega, rfl, rfl⟩
    case round =>
      obtain ⟨j, hj1, hjm, rfl, hfb⟩ := hrel
      have HFB := Lib.hid hfb
      clear hfb
      by_cases hjlt : j < 3
      · by_cases hend : i + j < s.length
        · have hbj := bget s (i + j) hend
          have hdl := bt_lt s (i + j)
          by_cases hok : okb (bt s i) j (bt s (i + j)) = true
          · have hst := firstBad_on (s := s) (i := i) (n := 3) (k := j) hjlt hend hok
            have HST := Lib.hid hst
            have hcont := okb_cont hok
            by_cases hj : j = 1
            · subst hj
              have HS := Lib.hid (fun W => second_any (bt s i) (bt s (i + 1)) W (bt_lt s i) hdl)
              rw [secB_ok, hok, ← HBE.out] at HS
              clear hst hok
              generalize bt s (i + 1) = d at *
              go_wp2_with (go_at_call 53; (with_reducible refine (HS.out _).mono ?_); rintro e w1 ⟨rfl, rfl⟩)
              go_round
              case rel => exact ⟨1 + 1, by omega, by omega, by go_num, by rw [HST.out]⟩
              case measure => simp [intOf]
            · have e1 : ((j : Int) == 1) = false := by simp; omega
              clear hst hok
              generalize bt s (i + j) = d at *
              try (exfalso; omega)
              all_goals
                go_wp2
                go_round
                case rel => exact ⟨j + 1, by omega, by omega, by go_num, by rw [HFB.out, HST.out]⟩
                case measure => simp [intOf]; omega
          · have hce : chAt s i = ⟨0, 0, 30, i + j⟩ := chAt_byte (n := 3) HM.out (by omega) (by rw [HFB.out]; exact firstBad_here hjlt (fun h => hok h.2)) hjlt hend
            have HCE := Lib.hid hce
            clear hce
            by_cases hj : j = 1
            · subst hj
              have hok' : okb (bt s i) 1 (bt s (i + 1)) = false := by simpa using hok
              have HS := Lib.hid (fun W => second_any (bt s i) (bt s (i + 1)) W (bt_lt s i) hdl)
              rw [secB_ok, hok', ← HBE.out] at HS
              clear hok hok'
              generalize bt s (i + 1) = d at *
              go_wp2_with (go_at_call 53; (with_reducible refine (HS.out _).mono ?_); rintro e w1 ⟨rfl, rfl⟩)
              exact bodyPost_ret (v := .tuple #[.int .i32 0, .int .i64 0, .int .i64 30, .int .i64 ((i : Int) + 1)]) (by simp [results, Try.results29, go_sem]) rfl ⟨by rw [at_bad HCE.out]; rfl, rfl⟩
            · have e1 : ((j : Int) == 1) = false := by simp; omega
              have hd : bt s (i + j) < 128 ∨ 191 < bt s (i + j) := by
                rcases Nat.lt_or_ge (bt s (i + j)) 128 with h | h
                · exact .inl h
                · rcases Nat.lt_or_ge 191 (bt s (i + j)) with h2 | h2
                  · exact .inr h2
                  · exact absurd (by unfold okb; rw [if_neg hj]; exact decide_eq_true ⟨h, h2⟩) hok
              clear hok
              generalize bt s (i + j) = d at *
              try (exfalso; omega)
              all_goals rcases hd with hd | hd
              all_goals
                go_wp2
                exact bodyPost_ret (v := .tuple #[.int .i32 0, .int .i64 0, .int .i64 30, .int .i64 ((i : Int) + j)]) (by simp [results, Try.results29, go_sem]) rfl ⟨by rw [at_bad HCE.out]; rfl, rfl⟩
        · have hce : chAt s i = ⟨0, 0, 31, s.length⟩ := chAt_cut (n := 3) HM.out (by omega) (by rw [HFB.out]; exact firstBad_here hjlt (fun h => hend h.1)) hjlt hend
          have HCE := Lib.hid hce
          clear hce
          go_wp2
          exact bodyPost_ret (v := .tuple #[.int .i32 0, .int .i64 0, .int .i64 31, .int .i64 s.length]) (by simp [results, Try.results29, go_sem]) rfl ⟨by rw [at_bad HCE.out]; rfl, rfl⟩
      · obtain rfl : j = 3 := by omega
        have hfb := HFB.out
        rw [firstBad_end (Nat.le_refl _)] at hfb
        have hce : chAt s i = ⟨code s i 3, 3, 0, 0⟩ := chAt_ok HM.out (by omega) hfb
        have hall := (firstBad_spec s i 3 1 (by omega)).2.2.1
        rw [hfb] at hall
        have HCE := Lib.hid hce
        have HALL := Lib.hid hall
        have hb192 : 224 ≤ b0 := by
          have := HM.out
          rw [← HBE.out] at this
          unfold wd at this
          (repeat' split at this) <;> omega
        have hc0 : codeK s i 3 0 = b0 - 224 := by rw [HBE.out]; rfl
        have HC0 := Lib.hid hc0
        clear hce hall hfb hc0
        go_wp2
        go_loop [11, 12] (fun x k => ∃ j q : Nat, j = q + 1 ∧ j ≤ 3 ∧ k = .int .i64 j ∧ x = .int .i64 (codeK s i 3 q : Nat)) (fun _ k => 3 - (intOf k).toNat)
        case atStart => exact ⟨1, 0, rfl, by omega, rfl, by rw [HC0.out]; congr 1; omega⟩
        case round =>
          obtain ⟨j, q, hjq, hj, rfl, rfl⟩ := hrel
          have HJQ := Lib.hid hjq
          have hj1 : 1 ≤ j := by omega
          have hbd := codeK_bd s i 3 q (by omega)
          clear hjq
          by_cases hlt2 : j < 3
          · obtain ⟨hl2, hok2⟩ := HALL.out j hj1 hlt2
            have hbj := bget s (i + j) hl2
            have hco := okb_cont hok2
            have hst : codeK s i 3 j = 64 * codeK s i 3 q + bt s (i + j) - 128 := by rw [HJQ.out]; rfl
            have HST := Lib.hid hst
            clear hok2 hst
            generalize bt s (i + j) = d at *
            generalize codeK s i 3 q = x at *
            go_wp2
            go_round
            case rel => exact ⟨j + 1, j, rfl, by omega, by go_num, by rw [HST.out]; congr 1; omega⟩
            case measure => simp [intOf]; omega
          · obtain rfl : j = 3 := by omega
            obtain rfl : q = 3 - 1 := by have := HJQ.out; omega
            have hx : ((codeK s i 3 (3 - 1) : Nat) : Int) ≤ 68157440 := by omega
            have HX : Hid (chAt s i = ⟨codeK s i 3 (3 - 1), 3, 0, 0⟩) := HCE.out
            clear hbd hlt2 hj hj1 HJQ
            generalize codeK s i 3 (3 - 1) = x at *
            go_wp2
            exact bodyPost_ret (v := .tuple #[.int .i32 x, .int .i64 3, .int .i64 0, .int .i64 0]) (by simp [results, Try.results29, go_sem]) rfl ⟨by rw [at_ok HX.out]; rfl, rfl⟩
  · have HW := Lib.hid (fun W => wide_any (bt s i) W hlt)
    rw [hm] at HW
    have HM := Lib.hid hm
    clear hm
    obtain ⟨b0, hbe⟩ : ∃ b0, b0 = bt s i := ⟨_, rfl⟩
    rw [← hbe] at hb0 hlt HW
    have HBE := Lib.hid hbe
    clear hbe
    go_enter Try.func29, Try.ntmps29
    go_wp2_with (go_at_call 52; (with_reducible refine (HW.out _).mono ?_); rintro e w1 ⟨rfl, rfl⟩)
    go_loop [9, 10] (fun k c => ∃ j : Nat, 1 ≤ j ∧ j ≤ 4 ∧ k = .int .i64 j ∧ firstBad s i 4 1 = firstBad s i 4 j) (fun k _ => 4 - (intOf k).toNat)
    case atStart => exact ⟨1, by omega, by omega, rfl, rfl⟩
    case round =>
      obtain ⟨j, hj1, hjm, rfl, hfb⟩ := hrel
      have HFB := Lib.hid hfb
      clear hfb
      by_cases hjlt : j < 4
      · by_cases hend : i + j < s.length
        · have hbj := bget s (i + j) hend
          have hdl := bt_lt s (i + j)
          by_cases hok : okb (bt s i) j (bt s (i + j)) = true
          · have hst := firstBad_on (s := s) (i := i) (n := 4) (k := j) hjlt hend hok
            have HST := Lib.hid hst
            have hcont := okb_cont hok
            by_cases hj : j = 1
            · subst hj
              have HS := Lib.hid (fun W => second_any (bt s i) (bt s (i + 1)) W (bt_lt s i) hdl)
              rw [secB_ok, hok, ← HBE.out] at HS
              clear hst hok
              generalize bt s (i + 1) = d at *
              go_wp2_with (go_at_call 53; (with_reducible refine (HS.out _).mono ?_); rintro e w1 ⟨rfl, rfl⟩)
              go_round
              case rel => exact ⟨1 + 1, by omega, by omega, by go_num, by rw [HST.out]⟩
              case measure => simp [intOf]
            · have e1 : ((j : Int) == 1) = false := by simp; omega
              clear hst hok
              generalize bt s (i + j) = d at *
              try (exfalso; omega)
              all_goals
                go_wp2
                go_round
                case rel => exact ⟨j + 1, by omega, by omega, by go_num, by rw [HFB.out, HST.out]⟩
                case measure => simp [intOf]; omega
          · have hce : chAt s i = ⟨0, 0, 30, i + j⟩ := chAt_byte (n := 4) HM.out (by omega) (by rw [HFB.out]; exact firstBad_here hjlt (fun h => hok h.2)) hjlt hend
            have HCE := Lib.hid hce
            clear hce
            by_cases hj : j = 1
            · subst hj
              have hok' : okb (bt s i) 1 (bt s (i + 1)) = false := by simpa using hok
              have HS := Lib.hid (fun W => second_any (bt s i) (bt s (i + 1)) W (bt_lt s i) hdl)
              rw [secB_ok, hok', ← HBE.out] at HS
              clear hok hok'
              generalize bt s (i + 1) = d at *
              go_wp2_with (go_at_call 53; (with_reducible refine (HS.out _).mono ?_); rintro e w1 ⟨rfl, rfl⟩)
              exact bodyPost_ret (v := .tuple #[.int .i32 0, .int .i64 0, .int .i64 30, .int .i64 ((i : Int) + 1)]) (by simp [results, Try.results29, go_sem]) rfl ⟨by rw [at_bad HCE.out]; rfl, rfl⟩
            · have e1 : ((j : Int) == 1) = false := by simp; omega
              have hd : bt s (i + j) < 128 ∨ 191 < bt s (i + j) := by
                rcases Nat.lt_or_ge (bt s (i + j)) 128 with h | h
                · exact .inl h
                · rcases Nat.lt_or_ge 191 (bt s (i + j)) with h2 | h2
                  · exact .inr h2
                  · exact absurd (by unfold okb; rw [if_neg hj]; exact decide_eq_true ⟨h, h2⟩) hok
              clear hok
              generalize bt s (i + j) = d at *
              try (exfalso; omega)
              all_goals rcases hd with hd | hd
              all_goals
                go_wp2
                exact bodyPost_ret (v := .tuple #[.int .i32 0, .int .i64 0, .int .i64 30, .int .i64 ((i : Int) + j)]) (by simp [results, Try.results29, go_sem]) rfl ⟨by rw [at_bad HCE.out]; rfl, rfl⟩
        · have hce : chAt s i = ⟨0, 0, 31, s.length⟩ := chAt_cut (n := 4) HM.out (by omega) (by rw [HFB.out]; exact firstBad_here hjlt (fun h => hend h.1)) hjlt hend
          have HCE := Lib.hid hce
          clear hce
          go_wp2
          exact bodyPost_ret (v := .tuple #[.int .i32 0, .int .i64 0, .int .i64 31, .int .i64 s.length]) (by simp [results, Try.results29, go_sem]) rfl ⟨by rw [at_bad HCE.out]; rfl, rfl⟩
      · obtain rfl : j = 4 := by omega
        have hfb := HFB.out
        rw [firstBad_end (Nat.le_refl _)] at hfb
        have hce : chAt s i = ⟨code s i 4, 4, 0, 0⟩ := chAt_ok HM.out (by omega) hfb
        have hall := (firstBad_spec s i 4 1 (by omega)).2.2.1
        rw [hfb] at hall
        have HCE := Lib.hid hce
        have HALL := Lib.hid hall
        have hb192 : 240 ≤ b0 := by
          have := HM.out
          rw [← HBE.out] at this
          unfold wd at this
          (repeat' split at this) <;> omega
        have hc0 : codeK s i 4 0 = b0 - 240 := by rw [HBE.out]; rfl
        have HC0 := Lib.hid hc0
        clear hce hall hfb hc0
        go_wp2
        go_loop [11, 12] (fun x k => ∃ j q : Nat, j = q + 1 ∧ j ≤ 4 ∧ k = .int .i64 j ∧ x = .int .i64 (codeK s i 4 q : Nat)) (fun _ k => 4 - (intOf k).toNat)
        case atStart => exact ⟨1, 0, rfl, by omega, rfl, by rw [HC0.out]; congr 1; omega⟩
        case round =>
          obtain ⟨j, q, hjq, hj, rfl, rfl⟩ := hrel
          have HJQ := Lib.hid hjq
          have hj1 : 1 ≤ j := by omega
          have hbd := codeK_bd s i 4 q (by omega)
          clear hjq
          by_cases hlt2 : j < 4
          · obtain ⟨hl2, hok2⟩ := HALL.out j hj1 hlt2
            have hbj := bget s (i + j) hl2
            have hco := okb_cont hok2
            have hst : codeK s i 4 j = 64 * codeK s i 4 q + bt s (i + j) - 128 := by rw [HJQ.out]; rfl
            have HST := Lib.hid hst
            clear hok2 hst
            generalize bt s (i + j) = d at *
            generalize codeK s i 4 q = x at *
            go_wp2
            go_round
            case rel => exact ⟨j + 1, j, rfl, by omega, by go_num, by rw [HST.out]; congr 1; omega⟩
            case measure => simp [intOf]; omega
          · obtain rfl : j = 4 := by omega
            obtain rfl : q = 4 - 1 := by have := HJQ.out; omega
            have hx : ((codeK s i 4 (4 - 1) : Nat) : Int) ≤ 68157440 := by omega
            have HX : Hid (chAt s i = ⟨codeK s i 4 (4 - 1), 4, 0, 0⟩) := HCE.out
            clear hbd hlt2 hj hj1 HJQ
            generalize codeK s i 4 (4 - 1) = x at *
            go_wp2
            exact bodyPost_ret (v := .tuple #[.int .i32 x, .int .i64 4, .int .i64 0, .int .i64 0]) (by simp [results, Try.results29, go_sem]) rfl ⟨by rw [at_ok HX.out]; rfl, rfl⟩
end Go.Proofs.Ytmdgopclcdmenaa
