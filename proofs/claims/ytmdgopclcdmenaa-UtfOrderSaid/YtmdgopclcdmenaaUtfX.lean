/- The contract of utf.Compare. -/
import Derived.Test.YtmdgopclcdmenaaUtfW
namespace Go.Proofs.Ytmdgopclcdmenaa
open Go.RowKit
set_option linter.unusedSimpArgs false
set_option linter.unusedVariables false

theorem pcompare_not (a b : List UInt8) (w : World) (ha : a.length ≤ 4294967296) (hb : b.length ≤ 4294967296) (h : right a = false ∨ right b = false) :
    Calls Try.prog 32 #[.string ⟨a.toArray⟩, .string ⟨b.toArray⟩] w fun e w' => e = .returned (.int .i64 (ucompare a b)) ∧ Below w.heap.size w w' := by
  have RA := Lib.hid (fun W => uright_any a W (by omega))
  have RB' := Lib.hid (fun W => uright_any b W (by omega))
  cases hra : right a with
  | true =>
    have hrb : right b = false := by rcases h with h | h; rw [h] at hra; cases hra; exact h
    rw [ucompare_tf hra hrb]
    rw [hra] at RA
    rw [hrb] at RB'
    clear h hra hrb
    go_enter Try.func32, Try.ntmps32
    go_wp2_with fail
    refine (RA.out _).mono ?_
    rintro e w1 ⟨rfl, b1⟩
    have B1 := Lib.hid b1
    clear b1
    go_wp2_with fail
    refine (RB'.out _).mono ?_
    rintro e w2 ⟨rfl, b2⟩
    have B2 := Lib.hid (keepb B1.out b2)
    clear b2
    go_wp2_with fail
    go_ret
    exact ⟨rfl, B2.out⟩
  | false =>
    cases hrb : right b with
    | true =>
      rw [ucompare_ft hra hrb]
      rw [hra] at RA
      rw [hrb] at RB'
      clear h hra hrb
      go_enter Try.func32, Try.ntmps32
      go_wp2_with fail
      refine (RA.out _).mono ?_
      rintro e w1 ⟨rfl, b1⟩
      have B1 := Lib.hid b1
      clear b1
      go_wp2_with fail
      refine (RB'.out _).mono ?_
      rintro e w2 ⟨rfl, b2⟩
      have B2 := Lib.hid (keepb B1.out b2)
      clear b2
      go_wp2_with fail
      go_ret
      exact ⟨rfl, B2.out⟩
    | false =>
      rw [ucompare_ff hra hrb]
      rw [hra] at RA
      rw [hrb] at RB'
      have HC := Lib.hid (fun W => cmp_string a b W)
      clear h hra hrb
      generalize bcmp a b = v at *
      go_enter Try.func32, Try.ntmps32
      go_wp2_with fail
      refine (RA.out _).mono ?_
      rintro e w1 ⟨rfl, b1⟩
      have B1 := Lib.hid b1
      clear b1
      go_wp2_with fail
      refine (RB'.out _).mono ?_
      rintro e w2 ⟨rfl, b2⟩
      have B2 := Lib.hid (keepb B1.out b2)
      clear b2
      go_wp2_with fail
      refine (HC.out _).mono ?_
      rintro e w' ⟨rfl, rfl⟩
      go_wp2_with fail
      go_ret
      exact ⟨rfl, B2.out⟩

set_option maxRecDepth 100000 in
set_option maxHeartbeats 4000000 in
theorem pcompare_yes (a b : List UInt8) (w : World) (ha : a.length ≤ 4294967296) (hb : b.length ≤ 4294967296) (hra : right a = true) (hrb : right b = true) :
    Calls Try.prog 32 #[.string ⟨a.toArray⟩, .string ⟨b.toArray⟩] w fun e w' => e = .returned (.int .i64 (ucompare a b)) ∧ Below w.heap.size w w' := by
  have RA := Lib.hid (fun W => uright_any a W (by omega))
  have RB' := Lib.hid (fun W => uright_any b W (by omega))
  have HP := Lib.hid (fun i hi => cmp_right a b i hi hra hrb)
  rw [hra] at RA
  rw [hrb] at RB'
  rw [ucompare_tt hra hrb]
  clear hra hrb
  generalize cmpL (unitsF a 0) (unitsF b 0) = v at *
  go_enter Try.func32, Try.ntmps32
  go_wp2_with fail
  refine (RA.out _).mono ?_
  rintro e w1 ⟨rfl, b1⟩
  have B1 := Lib.hid b1
  clear b1
  go_wp2_with fail
  refine (RB'.out _).mono ?_
  rintro e w2 ⟨rfl, b2⟩
  have B2 := Lib.hid (keepb B1.out b2)
  clear b2
  go_wp2_with fail
  go_loopw [7] (fun k wr => ∃ j : Nat, j ≤ a.length ∧ j ≤ b.length ∧ k = .int .i64 j ∧ (∀ k, k < j → bt a k = bt b k) ∧ Below w.heap.size w wr) (fun k _ => a.length - (intOf k).toNat)
  case atStart => exact ⟨0, by omega, by omega, rfl, fun k hk => absurd hk (by omega), B2.out⟩
  case round =>
    obtain ⟨j, hj1, hj2, rfl, heq, hbel⟩ := hrel
    have HEQ := Lib.hid heq
    have HBE := Lib.hid hbel
    clear hbel heq
    have q1 : (0 : Int) ≤ j := by omega
    by_cases h1 : j < a.length
    · by_cases h2 : j < b.length
      · have hba := bget a j h1
        have hbb := bget b j h2
        have hxl := bt_lt a j
        have hyl := bt_lt b j
        have q2 : (j : Int) < a.length := by omega
        have q3 : (j : Int) < b.length := by omega
        by_cases he : bt a j = bt b j
        · have HM : Hid (∀ k, k < j + 1 → bt a k = bt b k) := fun k hk => by
            rcases Nat.lt_or_ge k j with h | h
            · exact HEQ.out k h
            · obtain rfl : k = j := by omega
              exact he
          rw [← he] at hbb
          have hxx : (((bt a j : Nat) : Int) == (bt a j : Nat)) = true := by simp
          clear he
          generalize bt a j = x at *
          go_wp2
          go_quiet (fail)
          go_wp2
          go_roundw
          case rel => exact ⟨j + 1, by omega, by omega, by go_num, HM.out, below_drewN HBE.out nq⟩
          case measure => simp [intOf]; omega
        · have HPR := Lib.hid ((HP.out j ⟨hj1, hj2, HEQ.out, fun _ _ => he⟩).trans (by unfold prule; rw [if_neg (by omega)]))
          have hne : (((bt a j : Nat) : Int) == (bt b j : Nat)) = false := by simp only [beq_eq_false_iff_ne, ne_eq]; omega
          have n1 : ((j : Int) == (a.length : Int)) = false := by simp; omega
          have n2 : ((j : Int) == (b.length : Int)) = false := by simp; omega
          have HNE := Lib.hid he
          clear he
          generalize bt a j = x at *
          generalize bt b j = y at *
          have HX := Lib.hid (fun W => high_any x W hxl)
          have HY := Lib.hid (fun W => high_any y W hyl)
          have hbr : (240 ≤ x ∧ y < 240 ∧ 238 ≤ y ∧ brule x y = -1) ∨ (240 ≤ x ∧ y < 240 ∧ y < 238 ∧ brule x y = sg x y) ∨ (240 ≤ x ∧ 240 ≤ y ∧ brule x y = sg x y) ∨ (x < 240 ∧ 240 ≤ y ∧ 238 ≤ x ∧ brule x y = 1) ∨ (x < 240 ∧ 240 ≤ y ∧ x < 238 ∧ brule x y = sg x y) ∨ (x < 240 ∧ y < 240 ∧ brule x y = sg x y) := by
            have hne := HNE.out
            have hsg : (if x < y then (-1 : Int) else 1) = sg x y := by
              unfold sg
              by_cases h : x < y
              · rw [if_pos h, if_pos h]
              · rw [if_neg h, if_neg h, if_pos (by omega)]
            unfold brule
            rw [hsg]
            by_cases hx : 240 ≤ x
            · by_cases hy : 240 ≤ y
              · rw [if_neg (by omega), if_neg (by omega)]; exact .inr (.inr (.inl ⟨hx, hy, rfl⟩))
              · by_cases hz : 238 ≤ y
                · rw [if_pos (by omega)]; exact .inl ⟨hx, by omega, hz, rfl⟩
                · rw [if_neg (by omega), if_neg (by omega)]; exact .inr (.inl ⟨hx, by omega, by omega, rfl⟩)
            · by_cases hy : 240 ≤ y
              · by_cases hz : 238 ≤ x
                · rw [if_neg (by omega), if_pos (by omega)]; exact .inr (.inr (.inr (.inl ⟨by omega, hy, hz, rfl⟩)))
                · rw [if_neg (by omega), if_neg (by omega)]; exact .inr (.inr (.inr (.inr (.inl ⟨by omega, hy, by omega, rfl⟩))))
              · rw [if_neg (by omega), if_neg (by omega)]; exact .inr (.inr (.inr (.inr (.inr ⟨by omega, by omega, rfl⟩))))
          have HC := Lib.hid (fun W => cmp_byte x y W)
          rcases hbr with ⟨t1, t2, t3, t4⟩ | ⟨t1, t2, t3, t4⟩ | ⟨t1, t2, t4⟩ | ⟨t1, t2, t3, t4⟩ | ⟨t1, t2, t3, t4⟩ | ⟨t1, t2, t4⟩
          all_goals
            have HV := Lib.hid (HPR.out.trans t4)
            have X1 : ∀ p, decide (240 ≤ x) = p → (∀ W, Calls Try.prog 58 #[.int .u8 x] W fun e w' => e = .returned (.bool p) ∧ W = w') := fun p hp W => by rw [← hp]; exact HX.out W
            have Y1 : ∀ p, decide (240 ≤ y) = p → (∀ W, Calls Try.prog 58 #[.int .u8 y] W fun e w' => e = .returned (.bool p) ∧ W = w') := fun p hp W => by rw [← hp]; exact HY.out W
            have HX2 : Hid (∀ W, Calls Try.prog 58 #[.int .u8 x] W fun e w' => e = .returned (.bool _) ∧ W = w') := X1 _ (by first | exact decide_eq_true t1 | exact decide_eq_false (by omega))
            have HY2 : Hid (∀ W, Calls Try.prog 58 #[.int .u8 y] W fun e w' => e = .returned (.bool _) ∧ W = w') := Y1 _ (by first | exact decide_eq_true t2 | exact decide_eq_false (by omega))
            clear X1 Y1 HX HY t4
            go_wp2
            go_quiet (fail)
            go_wp2
            go_quiet (fail)
            go_wp2_with (first
              | (go_at_call 58; (with_reducible refine (HX2.out _).mono ?_); rintro e w' ⟨rfl, rfl⟩)
              | (go_at_call 58; (with_reducible refine (HY2.out _).mono ?_); rintro e w' ⟨rfl, rfl⟩)
              | (go_at_call 59; (with_reducible refine (HC.out _).mono ?_); rintro e w' ⟨rfl, rfl⟩))
            go_ret
            exact ⟨by rw [HV.out]; rfl, (by first | exact below_drewN HBE.out _ | exact below_drewN (below_drewN HBE.out _) _)⟩
      · have HPR : Hid (v = sg a.length b.length) := (HP.out j ⟨hj1, hj2, HEQ.out, fun _ h => absurd h h2⟩).trans (by unfold prule; rw [if_pos (by omega)]; rfl)
        have n1 : ((j : Int) == (a.length : Int)) = false := by simp; omega
        have n2 : ((j : Int) == (b.length : Int)) = true := by simp; omega
        have n3 : decide (j < b.length) = false := by simp; omega
        have n4 : decide ((j : Int) < b.length) = false := by simp; omega
        have q2 : (j : Int) < a.length := by omega
        have HC := Lib.hid (fun W => cmp_int a.length b.length W)
        clear h2
        go_wp2
        go_quiet (fail)
        go_wp2_with (go_at_call 57; (with_reducible refine (HC.out _).mono ?_); rintro e w' ⟨rfl, rfl⟩)
        go_ret
        exact ⟨by rw [HPR.out]; rfl, below_drewN HBE.out nq⟩
    · have HPR : Hid (v = sg a.length b.length) := (HP.out j ⟨hj1, hj2, HEQ.out, fun h _ => absurd h h1⟩).trans (by unfold prule; rw [if_pos (by omega)]; rfl)
      have n1 : ((j : Int) == (a.length : Int)) = true := by simp; omega
      have n3 : decide (j < a.length) = false := by simp; omega
      have n4 : decide ((j : Int) < a.length) = false := by simp; omega
      have HC := Lib.hid (fun W => cmp_int a.length b.length W)
      clear h1
      go_wp2
      go_quiet (fail)
      go_wp2_with (go_at_call 57; (with_reducible refine (HC.out _).mono ?_); rintro e w' ⟨rfl, rfl⟩)
      go_ret
      exact ⟨by rw [HPR.out]; rfl, below_drewN HBE.out nq⟩
theorem pcompare_any (a b : List UInt8) (w : World) (ha : a.length ≤ 4294967296) (hb : b.length ≤ 4294967296) :
    Calls Try.prog 32 #[.string ⟨a.toArray⟩, .string ⟨b.toArray⟩] w fun e w' => e = .returned (.int .i64 (ucompare a b)) ∧ Below w.heap.size w w' := by
  cases hra : right a with
  | false => exact pcompare_not a b w ha hb (.inl hra)
  | true =>
    cases hrb : right b with
    | false => exact pcompare_not a b w ha hb (.inr hrb)
    | true => exact pcompare_yes a b w ha hb hra hrb

/-- It is an order. -/
theorem ucompare_self (a : List UInt8) : ucompare a a = 0 := by
  unfold ucompare
  split
  · exact cmpL_self _
  · exact bcmp_self _
theorem ucompare_anti (a b : List UInt8) : ucompare b a = - ucompare a b := by
  unfold ucompare
  by_cases ha : right a = true <;> by_cases hb : right b = true
  · rw [if_pos ha, if_pos hb, if_pos hb, if_pos ha]; exact cmpL_anti _ _
  · rw [if_neg hb, if_pos ha, if_pos ha, if_neg hb]; rfl
  · rw [if_pos hb, if_neg ha, if_neg ha, if_pos hb]
  · rw [if_neg hb, if_neg ha, if_neg ha, if_neg hb]; exact cmpL_anti _ _
theorem ucompare_trans (a b c : List UInt8) (h1 : ucompare a b ≤ 0) (h2 : ucompare b c ≤ 0) : ucompare a c ≤ 0 := by
  unfold ucompare at *
  by_cases ha : right a = true <;> by_cases hb : right b = true <;> by_cases hc : right c = true <;> simp only [ha, hb, hc, if_true, if_false, Bool.false_eq_true] at h1 h2 ⊢
  · exact cmpL_trans _ _ _ h1 h2
  all_goals first | decide | (exact absurd h1 (by decide)) | (exact absurd h2 (by decide)) | exact cmpL_trans _ _ _ h1 h2
theorem ucompare_range (a b : List UInt8) : ucompare a b = -1 ∨ ucompare a b = 0 ∨ ucompare a b = 1 := by
  unfold ucompare
  split <;> split
  · exact cmpL_range _ _
  · exact .inl rfl
  · exact .inr (.inr rfl)
  · exact cmpL_range _ _
end Go.Proofs.Ytmdgopclcdmenaa
