/- The walk of DigitsBack. -/
import Derived.Test.YtnajondbdeclmaaGreatDoorDigZ
import Derived.Test.YtnajondbdeclmaaGreatDoorDigV
namespace Go.Proofs.YtnajondbdeclmaaGreatDoor
open Go.RowKit
set_option linter.unusedSimpArgs false
set_option linter.unusedVariables false

/-- What is written of a float. -/
def textS (n : Nat) : List UInt8 := if isWhole (n % 9223372036854775808) then Lib.itoa (wholeI n) else textR (decide (9223372036854775808 ≤ n)) (shortR (n % 9223372036854775808)).1 (shortR (n % 9223372036854775808)).2
theorem textV_fin {n : Nat} (h : n % 9223372036854775808 ≤ most) : textV n = .tuple #[.string ⟨(textS n).toArray⟩, .nilIface] := by
  unfold textV textS
  rw [if_neg (by omega)]
  split <;> rfl
theorem whole_small {n : Nat} (h : isWhole (n % 9223372036854775808) = true) : -9007199254740992 < wholeI n ∧ wholeI n < 9007199254740992 := by
  obtain ⟨u, hu⟩ : ∃ u, u = 1074 := ⟨_, rfl⟩
  have h1 := (of_decide_eq_true h).1
  have := whole_lt hu h1
  unfold wholeI wholeF
  rw [← hu]
  generalize Fl (n % 9223372036854775808) / 2 ^ u = q at *
  split <;> omega
/-- What is written of a float that is not nought is a literal that rounds to it. -/
theorem textS_back {n b : Nat} (hn : n < 18446744073709551616) (hb : n % 9223372036854775808 = b) (h1 : b ≤ most) (h0 : 0 < b) : wrongP (textS n) = none ∧ (textS n).length ≤ 1000 ∧ roundP (bareP (textS n)) 1 = some n := by
  have key : ∀ {s : List UInt8} {e : Dm} {X : Nat}, bareP s = stripD e → e.1 = decide (9223372036854775808 ≤ n) → valX e = X → -(unitE : Int) ≤ e.2.2 → insD b X = true → (∀ k, k = 800 → ∃ N j, X = N * 10 ^ j ∧ N < 10 ^ k) → roundP (bareP s) 1 = some n := by
    intro s e X h2 h3 h4 h5 h6 h7
    obtain ⟨a, c, d⟩ := strip_val e h5
    have hB := bareP_bare s
    rw [h2] at hB ⊢
    obtain ⟨k, hk⟩ : ∃ k, k = 800 := ⟨_, rfl⟩
    obtain ⟨N, j, h8, h9⟩ := h7 k hk
    have hX : 0 < X := by
      have := insD_iff.1 h6
      have := from_pos h0
      have := from_lt_to b
      omega
    have hne : (stripD e).2.1 ≠ [] := fun h => by
      have := val_zero h
      rw [a, h4] at this
      omega
    rw [round_val hB c (by rw [← hk]; exact bare_len hB (by rw [a, h4, h8]) h9) h1 (by rw [a, h4]; exact h6), d hne, h3]
    congr 1
    by_cases hs : 9223372036854775808 ≤ n
    · rw [decide_eq_true hs, decide_eq_true h0, if_pos (show (true && true) = true from rfl)]; omega
    · rw [decide_eq_false hs, if_neg (by simp)]; omega
  cases hw : isWhole (n % 9223372036854775808) with
  | true =>
    have e : textS n = Lib.itoa (wholeI n) := by unfold textS; rw [if_pos hw]
    rw [e]
    obtain ⟨p1, d, p2, p3, p4, p5⟩ := whole_parse n hw (by omega) hn
    obtain ⟨w1, w2⟩ := whole_small hw
    have hl := itoa_len21 (wholeI n) (by omega) (by omega)
    refine ⟨p1, by omega, ?_⟩
    rw [hb] at p4
    exact key p2 p3 p4 p5 (insD_sz h0) (fun k hk => (sz_800 h1 k hk).1)
  | false =>
    have e : textS n = textR (decide (9223372036854775808 ≤ n)) (shortR b).1 (shortR b).2 := by unfold textS; rw [if_neg (by rw [hw]; decide), hb]
    rw [e]
    obtain ⟨s1, s2, s3, s4, s5⟩ := short_size h1 h0
    have hr : shortR b = rowN (shortN b) := by unfold shortR; rw [if_neg (by omega)]
    have hld := row_lead (short_pos h0)
    have hv := (row_val (shortN b)).1
    rw [← hr] at hld hv
    have hu : unitE = 1075 := rfl
    obtain ⟨p1, d, p2, p3, p4, p5⟩ := textR_parse (decide (9223372036854775808 ≤ n)) (shortR b).1 (shortR b).2 hld.1 hld.2.1 hld.2.2.1 (by omega) (by omega) (by omega)
    have hl := textR_len (decide (9223372036854775808 ≤ n)) (shortR b).1 (shortR b).2 (by omega) (by omega)
    have hpr : ∀ p : List UInt8 × Int, rowD (p.1, p.2) = rowD p := fun _ => rfl
    rw [hpr, hv] at p4
    refine ⟨p1, by omega, ?_⟩
    refine key p2 p3 p4 p5 (short_spec h0).1 (fun k hk => ?_)
    obtain ⟨i, v, k1, k2, k3, k4, k5, _⟩ := short_digits h0
    refine ⟨v, _, k5, ?_⟩
    have : 10 ^ i ≤ 10 ^ 17 := Nat.pow_le_pow_right (by decide) k2
    have : 10 ^ 17 < 10 ^ k := Nat.pow_lt_pow_right (by decide) (by omega)
    omega
theorem bits_text {n b : Nat} (hn : n < 18446744073709551616) (hb : n % 9223372036854775808 = b) (h1 : b ≤ most) (h0 : 0 < b) (w : World) :
    Calls Tryz.prog 42 #[.string ⟨(textS n).toArray⟩] w fun e w' => e = .returned (.tuple #[.int .u64 (n : Nat), .nilIface]) ∧ Below w.heap.size w w' := by
  obtain ⟨p1, p2, p3⟩ := textS_back hn hb h1 h0
  have := bits_ok (textS n) w (by omega) p1
  rw [p3] at this
  exact this
theorem ta_eno5 (n : Int) (w : World) : (Instr.typeAssert (enoV n) 24 72 true).run Tryz.prog w = .ok (.tuple #[.int .i64 n, .bool true]) w := by kernel_rfl
theorem number5 (n : Int) (w : World) (h : (n == 0) = false) :
    Calls Tryz.prog 15 #[enoV n] w fun e w' => e = .returned (.int .i64 n) ∧ w = w' := by
  have ta := ta_eno5 n
  go_enter Tryz.func15, Tryz.ntmps15
  go_wp2_with fail
  go_ret
  exact ⟨rfl, rfl⟩
theorem number5_nil (w : World) :
    Calls Tryz.prog 15 #[.nilIface] w fun e w' => e = .returned (.int .i64 0) ∧ w = w' := by
  go_enter Tryz.func15, Tryz.ntmps15
  go_wp2_with fail
  go_ret
  exact ⟨rfl, rfl⟩
theorem reach_same (w : World) : (binOp .eql 40 (.agg #[.string ⟨#[]⟩, .string ⟨#[]⟩, .bool false]) (.agg #[.string ⟨#[]⟩, .string ⟨#[]⟩, .bool false])).run Tryz.prog w = .ok (.bool true) w := by kernel_rfl
end Go.Proofs.YtnajondbdeclmaaGreatDoor
namespace Go.Proofs.YtnajondbdeclmaaGreatDoor.digitsBack
open Go.RowKit
attribute [local go_sem] SGives_value SGives_skip SGives_enter
set_option linter.unusedSimpArgs false
set_option linter.unusedVariables false

set_option maxRecDepth 100000 in
set_option maxHeartbeats 4000000 in
theorem back_inf (n : Nat) (w : World)
    (HF : Hid (∀ W, Calls Tryz.prog 33 #[.int .u64 (n : Int)] W fun e w' => e = .returned (.bool false) ∧ W = w'))
    (cf : ∀ W, (callFunc 18 #[.int .u64 (n : Int)]).run Tryz.prog W = .ok (.value (.float .f64 n)) W)
    (HS : Hid (∀ W, Calls Tryz.prog 13 #[.int .u64 (n : Int)] W fun e w' => e = .returned (.tuple #[.string ⟨#[]⟩, .int .i64 0, enoV 50]) ∧ Below W.heap.size W w'))
    (HT : Hid (∀ W, Below w.heap.size w W → Calls Tryz.prog 17 #[.float .f64 n] W fun e w' => e = .returned (.tuple #[.string ⟨#[]⟩, enoV 50]) ∧ Below W.heap.size W w'))
    (HA : Hid (∀ W, Calls Tryz.prog 22 #[.int .u64 (n : Int)] W fun e w' => e = .returned (.tuple #[.agg #[.string ⟨#[]⟩, .string ⟨#[]⟩, .bool false], enoV 50]) ∧ Below W.heap.size W w'))
    (HW : Hid (∀ W, Below w.heap.size w W → Calls Tryz.prog 16 #[] W fun e w' => e = .returned (.bool true) ∧ Below W.heap.size W w')) :
    Calls Tryz.prog 9 #[.int .u64 (n : Int)] w fun e w' => e = .returned (.bool true) ∧ Below w.heap.size w w' := by
  have BB := Lib.hid (Below.refl w.heap.size w)
  have rs := reach_same
  go_enter Tryz.func9, Tryz.ntmps9
  go_wp2_with fail
  refine (HS.out _).mono ?_
  rintro e w1 ⟨rfl, hb⟩
  have BB := Lib.hid (keepb BB.out hb)
  clear hb
  go_wp2_with fail
  refine (HT.out _ BB.out).mono ?_
  rintro e w2 ⟨rfl, hb⟩
  have BB := Lib.hid (keepb BB.out hb)
  clear hb
  go_wp2_with fail
  refine (HA.out _).mono ?_
  rintro e w3 ⟨rfl, hb⟩
  have hbk := keepb BB.out hb
  have BB := Lib.hid (hbk.alloc hbk.size (.cells #[.string ⟨#[]⟩, .string ⟨#[]⟩, .bool false] 40))
  have B0 := Lib.hid (Blk.new w3 40 #[.string ⟨#[]⟩, .string ⟨#[]⟩, .bool false])
  clear hb hbk
  have c0_0 := B0.out.cell 0
  have c0_1 := B0.out.cell 1
  have c0_2 := B0.out.cell 2
  go_wp2_with fail
  refine (HF.out _).mono ?_
  rintro e w4 ⟨rfl, rfl⟩
  go_wp2_with fail
  refine (number5 50 _ rfl).mono ?_
  rintro e w4 ⟨rfl, rfl⟩
  go_wp2_with fail
  refine (number5 50 _ rfl).mono ?_
  rintro e w4 ⟨rfl, rfl⟩
  go_wp2_with fail
  refine (number5 50 _ rfl).mono ?_
  rintro e w4 ⟨rfl, rfl⟩
  go_wp2_with fail
  refine (HW.out _ BB.out).mono ?_
  rintro e w6 ⟨rfl, hb⟩
  have HB6 := Lib.hid (keepb BB.out hb)
  clear hb c0_0 c0_1 c0_2
  go_wp2_with fail
  go_ret
  exact ⟨rfl, HB6.out⟩
set_option maxRecDepth 100000 in
set_option maxHeartbeats 4000000 in
theorem back_walk (n r : Nat) (k : Int) (d f t s : List UInt8) (cl nz : Bool) (w : World)
    (HF : Hid (∀ W, Calls Tryz.prog 33 #[.int .u64 (n : Int)] W fun e w' => e = .returned (.bool true) ∧ W = w'))
    (cf : ∀ W, (callFunc 18 #[.int .u64 (n : Int)]).run Tryz.prog W = .ok (.value (.float .f64 n)) W)
    (HS : Hid (∀ W, Calls Tryz.prog 13 #[.int .u64 (n : Int)] W fun e w' => e = .returned (.tuple #[.string ⟨d.toArray⟩, .int .i64 k, .nilIface]) ∧ Below W.heap.size W w'))
    (HT : Hid (∀ W, Below w.heap.size w W → Calls Tryz.prog 17 #[.float .f64 n] W fun e w' => e = .returned (.tuple #[.string ⟨s.toArray⟩, .nilIface]) ∧ Below W.heap.size W w'))
    (HA : Hid (∀ W, Calls Tryz.prog 22 #[.int .u64 (n : Int)] W fun e w' => e = .returned (.tuple #[.agg #[.string ⟨f.toArray⟩, .string ⟨t.toArray⟩, .bool cl], .nilIface]) ∧ Below W.heap.size W w'))
    (HL : Hid (∀ W, Below w.heap.size w W → Calls Tryz.prog 41 #[.string ⟨d.toArray⟩, .int .i64 k] W fun r w' => r = .returned (.string ⟨(litL d k).toArray⟩) ∧ Below W.heap.size W w'))
    (HI : Hid (∀ W, Calls Tryz.prog 40 #[.string ⟨(litL d k).toArray⟩, .agg #[.string ⟨f.toArray⟩, .string ⟨t.toArray⟩, .bool cl]] W fun r w' => r = .returned (.bool true) ∧ Below W.heap.size W w'))
    (HR : Hid (nz = true → ∀ W, Calls Tryz.prog 34 #[.string ⟨d.toArray⟩] W fun e w' => e = .returned (.bool true) ∧ W = w'))
    (HB : Hid (∀ W, Calls Tryz.prog 42 #[.string ⟨s.toArray⟩] W fun e w' => e = .returned (.tuple #[.int .u64 (r : Int), .nilIface]) ∧ Below W.heap.size W w'))
    (hz : (FloatKind.f64.format.order n 0 == some .eq) = !nz) (hz2 : (FloatKind.f64.format.order n 0 != some .eq) = nz) (hd : (d.length : Int) ≤ 17)
    (hnz : Hid (nz = true → r = n)) (hzz : Hid (nz = false → r = 0 ∧ d = [48] ∧ k = 1))
    (HW : Hid (∀ W, Below w.heap.size w W → Calls Tryz.prog 16 #[] W fun e w' => e = .returned (.bool true) ∧ Below W.heap.size W w')) :
    Calls Tryz.prog 9 #[.int .u64 (n : Int)] w fun e w' => e = .returned (.bool true) ∧ Below w.heap.size w w' := by
  have BB := Lib.hid (Below.refl w.heap.size w)
  have t17 : decide ((17 : Int) < (d.length : Int)) = false := decide_eq_false (by omega)
  have t17' : decide (17 < d.length) = false := decide_eq_false (by omega)
  clear hd
  go_enter Tryz.func9, Tryz.ntmps9
  go_wp2_with fail
  refine (HS.out _).mono ?_
  rintro e w1 ⟨rfl, hb⟩
  have BB := Lib.hid (keepb BB.out hb)
  clear hb
  go_wp2_with fail
  refine (HT.out _ BB.out).mono ?_
  rintro e w2 ⟨rfl, hb⟩
  have BB := Lib.hid (keepb BB.out hb)
  clear hb
  go_wp2_with fail
  refine (HA.out _).mono ?_
  rintro e w3 ⟨rfl, hb⟩
  have hbk := keepb BB.out hb
  have BB := Lib.hid (hbk.alloc hbk.size (.cells #[.string ⟨f.toArray⟩, .string ⟨t.toArray⟩, .bool cl] 40))
  have B0 := Lib.hid (Blk.new w3 40 #[.string ⟨f.toArray⟩, .string ⟨t.toArray⟩, .bool cl])
  clear hb hbk
  have c0_0 := B0.out.cell 0
  have c0_1 := B0.out.cell 1
  have c0_2 := B0.out.cell 2
  go_wp2_with fail
  refine (HF.out _).mono ?_
  rintro e w4 ⟨rfl, rfl⟩
  go_upto_region 7 with fail
  cases nz
  · have BB := Lib.hid BB.out
    have B0 := Lib.hid B0.out
    clear c0_0 c0_1 c0_2
    obtain ⟨S, SD⟩ : ∃ S : World → Prop, Go.RowKit.Hid (∀ w' : World, S w' ↔ (Blk w' w3.heap.size 40 #[.string ⟨f.toArray⟩, .string ⟨t.toArray⟩, .bool cl] ∧ Below w.heap.size w w')) := ⟨_, Lib.hid (fun _ => Iff.rfl)⟩
    refine wp_region_sure (S := S) (by kernel_rfl) (by kernel_rfl) ((SD.out _).2 (⟨B0.out, BB.out.drew⟩)) ?_
    repeat
      (first
        | (refine SureL.no (by rfl) ?_; simp only [Act.put, List.setIfInBounds_toArray, List.set_cons_zero, List.set_cons_succ])
        | (refine' SureL.yes (by rfl) (fun wS hS => ?_) ?_
           rotate_left
           · have hS' := (SD.out _).1 hS
             obtain ⟨h0, hB⟩ := hS'
             have e0_0 := h0.cell 0
             have e0_1 := h0.cell 1
             have e0_2 := h0.cell 2
             go_simp
             first
               | exact ⟨rfl, hS⟩
               | (go_at_call 41; refine (HL.out _ hB).mono ?_; rintro e w' ⟨rfl, hb⟩; exact ⟨rfl, (SD.out _).2 ⟨h0.st hb, keepb hB hb⟩⟩)
               | (go_at_call 40; refine (HI.out _).mono ?_; rintro e w' ⟨rfl, hb⟩; exact ⟨rfl, (SD.out _).2 ⟨h0.st hb, keepb hB hb⟩⟩)
           simp only [Act.put, List.setIfInBounds_toArray, List.set_cons_zero, List.set_cons_succ]))
    refine SureL.nil ?_
    intro wE hE
    obtain ⟨h0, hB⟩ := (SD.out _).1 hE
    have B0 := Lib.hid h0
    have BB := Lib.hid hB
    clear hE hB h0 S SD
    have c0_0 := B0.out.cell 0
    have c0_1 := B0.out.cell 1
    have c0_2 := B0.out.cell 2
    go_wp2_with fail
    refine (HB.out _).mono ?_
    rintro e w6 ⟨rfl, hb⟩
    have BB := Lib.hid (keepb BB.out hb)
    clear hb c0_0 c0_1 c0_2
    obtain ⟨h1, h2, h3⟩ := hzz.out (by simp)
    subst h1 h2 h3
    go_wp2_with fail
    refine (HW.out _ BB.out).mono ?_
    rintro e w7 ⟨rfl, hb⟩
    have BB := Lib.hid (keepb BB.out hb)
    clear hb
    go_wp2_with fail
    go_ret
    exact ⟨rfl, BB.out⟩
  · have HRR := Lib.hid (HR.out (by simp))
    clear c0_0 c0_1 c0_2
    obtain ⟨S, SD⟩ : ∃ S : World → Prop, Go.RowKit.Hid (∀ w' : World, S w' ↔ (Blk w' w3.heap.size 40 #[.string ⟨f.toArray⟩, .string ⟨t.toArray⟩, .bool cl] ∧ Below w.heap.size w w')) := ⟨_, Lib.hid (fun _ => Iff.rfl)⟩
    refine wp_region_sure (S := S) (by kernel_rfl) (by kernel_rfl) ((SD.out _).2 (⟨B0.out, BB.out.drew⟩)) ?_
    repeat
      (first
        | (refine SureL.no (by rfl) ?_; simp only [Act.put, List.setIfInBounds_toArray, List.set_cons_zero, List.set_cons_succ])
        | (refine' SureL.yes (by rfl) (fun wS hS => ?_) ?_
           rotate_left
           · have hS' := (SD.out _).1 hS
             obtain ⟨h0, hB⟩ := hS'
             have e0_0 := h0.cell 0
             have e0_1 := h0.cell 1
             have e0_2 := h0.cell 2
             go_simp
             first
               | exact ⟨rfl, hS⟩
               | (go_at_call 41; refine (HL.out _ hB).mono ?_; rintro e w' ⟨rfl, hb⟩; exact ⟨rfl, (SD.out _).2 ⟨h0.st hb, keepb hB hb⟩⟩)
               | (go_at_call 40; refine (HI.out _).mono ?_; rintro e w' ⟨rfl, hb⟩; exact ⟨rfl, (SD.out _).2 ⟨h0.st hb, keepb hB hb⟩⟩)
               | (go_at_call 34; refine (HRR.out _).mono ?_; rintro e w' ⟨rfl, rfl⟩; exact ⟨rfl, hS⟩)
           simp only [Act.put, List.setIfInBounds_toArray, List.set_cons_zero, List.set_cons_succ]))
    refine SureL.nil ?_
    intro wE hE
    obtain ⟨h0, hB⟩ := (SD.out _).1 hE
    have B0 := Lib.hid h0
    have BB := Lib.hid hB
    clear hE hB h0 S SD
    have c0_0 := B0.out.cell 0
    have c0_1 := B0.out.cell 1
    have c0_2 := B0.out.cell 2
    go_wp2_with fail
    refine (HB.out _).mono ?_
    rintro e w6 ⟨rfl, hb⟩
    have BB := Lib.hid (keepb BB.out hb)
    clear hb c0_0 c0_1 c0_2
    have h1 := hnz.out (by simp)
    subst h1
    go_wp2_with fail
    refine (HW.out _ BB.out).mono ?_
    rintro e w7 ⟨rfl, hb⟩
    have BB := Lib.hid (keepb BB.out hb)
    clear hb
    go_wp2_with fail
    go_ret
    exact ⟨rfl, BB.out⟩
theorem order_zero {n : Nat} (hn : n < 18446744073709551616) (h : n % 9223372036854775808 ≤ most) : (FloatKind.f64.format.order n 0 == some .eq) = decide (n % 9223372036854775808 = 0) := by
  rw [order_sv hn h (by decide) (by decide), sv_nought]
  by_cases h0 : n % 9223372036854775808 = 0
  · have : svI n = 0 := by
      unfold svI
      by_cases hs : n < 9223372036854775808
      · rw [if_pos hs, show n = 0 by omega, Fl_zero]; rfl
      · rw [if_neg hs, show n - 9223372036854775808 = 0 by omega, Fl_zero]; rfl
    rw [this, if_neg (by omega), if_pos rfl, decide_eq_true h0]
    rfl
  · have hF : 0 < Fl (n % 9223372036854775808) := by
      have := Fl_lt (a := 0) (b := n % 9223372036854775808)
      rw [Fl_zero] at this
      exact this.2 (by omega)
    rw [decide_eq_false h0]
    by_cases hs : n < 9223372036854775808
    · have e : n % 9223372036854775808 = n := Nat.mod_eq_of_lt hs
      have : svI n = (Fl n : Int) := by unfold svI; rw [if_pos hs]
      rw [e] at hF
      rw [this, if_neg (by omega), if_neg (by omega)]
      rfl
    · have e : n % 9223372036854775808 = n - 9223372036854775808 := by omega
      have : svI n = -(Fl (n - 9223372036854775808) : Int) := by unfold svI; rw [if_neg hs]
      rw [e] at hF
      rw [this, if_pos (by omega)]
      rfl
theorem whole_zero {n : Nat} (h : n % 9223372036854775808 = 0) : textS n = [48] := by
  have h1 : isWhole 0 = true := by decide +kernel
  have h2 : wholeF 0 = 0 := by
    obtain ⟨u, hu⟩ : ∃ u, u = 1074 := ⟨_, rfl⟩
    unfold wholeF
    rw [← hu, Fl_zero, Nat.zero_div]
  have h3 : wholeI n = 0 := by unfold wholeI; rw [h, h2]; split <;> rfl
  unfold textS
  rw [h, h1, if_pos rfl, h3]
  unfold Lib.itoa
  rw [if_neg (by decide), show (0 : Int).toNat = 0 from rfl, Lib.decDigits, dif_pos (by decide)]
  rfl
theorem walk (a0 : Int) (w : World) (w0 : (Lit.int .u64 a0).wf = true) (ht : Tab w) :
    Calls Tryz.prog 9 #[.int .u64 a0] w fun e w' => e = .returned (.bool true) ∧ Below w.heap.size w w' := by
  obtain ⟨n, rfl, hn⟩ := word_wf w0
  obtain ⟨b, hb⟩ : ∃ b, n % 9223372036854775808 = b := ⟨_, rfl⟩
  have hW := Lib.hid (fun W (h : Below w.heap.size w W) => works_yes W (ht.below h))
  by_cases h1 : b ≤ most
  · have hfin : finB n = true := by unfold finB; rw [hb]; exact decide_eq_true h1
    have hz := order_zero hn (by rw [hb]; exact h1)
    rw [hb] at hz
    have HF := Lib.hid (fun W => by have := finite_any n W hn; rwa [hfin] at this)
    have HS := Lib.hid (fun W => by
      have := dshort_any n W hn
      unfold shortV at this
      rw [hb, if_neg (by omega)] at this
      exact this)
    have HT := Lib.hid (fun W (hB : Below w.heap.size w W) => by
      have := text_any n W hn (ht.below hB)
      rwa [textV_fin (by rw [hb]; exact h1)] at this)
    have HA := Lib.hid (fun W => around_fin n b W hn hb h1)
    by_cases h0 : b = 0
    · rw [decide_eq_true h0] at hz
      have e1 : shortR b = ([48], 1) := by rw [h0]; rfl
      have e2 : textS n = [48] := whole_zero (by rw [hb, h0])
      rw [e1] at HS
      rw [e2] at HT
      have hnum : NumT (litL [48] 1) 0 := by
        have h := lit_num (d := [48]) (n := 1) (by decide) (by decide) (.inl rfl) (by decide) (by rw [unitE_eq]; decide) (by decide)
        have e : valX (rowD ([48], 1)) = 0 := by rw [valX_rowD, show dval [48] = 0 from rfl, Nat.zero_mul]
        rwa [e] at h
      refine back_walk n 0 1 [48] _ _ _ (b % 2 == 0) false w HF (call_from n) HS HT HA ?_ ?_ (Lib.hid (fun h => by cases h)) ?_ hz (by rw [bne, hz]; rfl) (by decide) (Lib.hid (fun h => by cases h)) (Lib.hid (fun _ => ⟨rfl, rfl, rfl⟩)) hW
      · exact Lib.hid (fun W hB => literal_d [48] 1 W (by decide) (by decide) (by decide) (ht.below hB))
      · refine Lib.hid (fun W => ?_)
        have := inside_lit (b % 2 == 0) hnum (from_num h1) (to_num h1) W
        rw [insC_D] at this
        have hi : insD b 0 = true := insD_iff.2 (.inr ⟨by rw [h0], .inl (by rw [h0]; rfl)⟩)
        rwa [hi] at this
      · refine Lib.hid (fun W => ?_)
        have := bits_ok [48] W (by decide) (by decide)
        rw [show bareP [48] = (false, [], 0) by decide, round_nought] at this
        exact this
    · rw [decide_eq_false h0] at hz
      obtain ⟨s1, s2, s3, s4, s5⟩ := short_size h1 (show 0 < b by omega)
      have hr : shortR b = rowN (shortN b) := by unfold shortR; rw [if_neg h0]
      have hld := row_lead (short_pos (show 0 < b by omega))
      rw [← hr] at hld
      refine back_walk n n (shortR b).2 (shortR b).1 _ _ _ (b % 2 == 0) true w HF (call_from n) HS HT HA ?_ ?_ ?_ ?_ hz (by rw [bne, hz]; rfl) (by omega) (Lib.hid (fun _ => rfl)) (Lib.hid (fun h => by cases h)) hW
      · exact Lib.hid (fun W hB => literal_d _ _ W (by omega) (by omega) (by omega) (ht.below hB))
      · refine Lib.hid (fun W => ?_)
        have := inside_lit (b % 2 == 0) (short_num h1 (show 0 < b by omega)) (from_num h1) (to_num h1) W
        rwa [insC_D, (short_spec (show 0 < b by omega)).1] at this
      · refine Lib.hid (fun _ W => ?_)
        have := right_d (shortR b).1 hld.1 (by omega) W
        rwa [show rightB (shortR b).1 = true from decide_eq_true hld.2] at this
      · exact Lib.hid (fun W => bits_text hn hb h1 (by omega) W)
  · have hfin : finB n = false := by unfold finB; rw [hb]; exact decide_eq_false h1
    have hi : most < n % 9223372036854775808 := by rw [hb]; omega
    refine back_inf n w (Lib.hid (fun W => by have := finite_any n W hn; rwa [hfin] at this)) (call_from n) ?_ (Lib.hid (fun W hB => text_inf n W hn hi)) (Lib.hid (fun W => around_inf n W hn hi)) hW
    refine Lib.hid (fun W => ?_)
    have := dshort_any n W hn
    unfold shortV at this
    rw [if_pos hi] at this
    exact this
end Go.Proofs.YtnajondbdeclmaaGreatDoor.digitsBack
