/- The walk of DigitsAll. -/
import Derived.Test.YtnajondbdeclmaaGreatDoorRoundP
import Derived.Test.YtnajondbdeclmaaGreatDoorDigitsBackW
namespace Go.Proofs.YtnajondbdeclmaaGreatDoor
open Go.RowKit
set_option linter.unusedSimpArgs false
set_option linter.unusedVariables false

/-- A row of digits with its exponent is the number that it was made of. -/
theorem row_num {X : Nat} (h0 : 0 < X) (hX : X < 2 ^ bigE) (h8 : ∀ k, k = 800 → ∃ N e, X = N * 10 ^ e ∧ N < 10 ^ k) : NumT (litL (rowN X).1 (rowN X).2) X := by
  obtain ⟨l1, l2, l3, l4⟩ := row_lead h0
  obtain ⟨v1, v2, v3⟩ := row_val X
  have hL := lenD_le hX
  have hu : unitE = 1075 := rfl
  have hle : lenE = 2160 := rfl
  obtain ⟨k, hk⟩ : ∃ k, k = 800 := ⟨_, rfl⟩
  obtain ⟨N, e, h9, h10⟩ := h8 k hk
  have hl : (rowN X).1.length ≤ 800 := by rw [← hk]; exact bare_len (row_bare h0) (v1.trans h9) h10
  unfold rowD at v2 v3
  simp only at v2 v3
  clear hX h8
  have := lit_num l1 l2 (.inr l3) (n := (rowN X).2) hl v2 (by omega)
  have hpr : ∀ p : List UInt8 × Int, rowD (p.1, p.2) = rowD p := fun _ => rfl
  rw [hpr, v1] at this
  exact this
theorem round_800 {b : Nat} (hb : b ≤ most) (h0 : 0 < b) : roundN (sz b) 800 = sz b := by
  have hp := sz_pos h0
  unfold roundN
  by_cases h : 800 < lenD (sz b)
  · rw [if_pos h]
    obtain ⟨k, hk⟩ : ∃ k, k = 800 := ⟨_, rfl⟩
    obtain ⟨N, e, h1, h2⟩ := (sz_800 hb k hk).1
    rw [← hk] at h ⊢
    have hge := lenD_ge hp
    have hlt : sz b < 10 ^ (k + e) := by rw [h1, Nat.pow_add]; exact Nat.mul_lt_mul_of_pos_right h2 (pow10 e)
    have hle : lenD (sz b) - k ≤ e := by
      have := (Nat.pow_lt_pow_iff_right (show 1 < 10 by decide)).1 (Nat.lt_of_le_of_lt hge hlt)
      omega
    have hdiv : sz b = N * 10 ^ (e - (lenD (sz b) - k)) * 10 ^ (lenD (sz b) - k) := by
      rw [Nat.mul_assoc, ← Nat.pow_add, show e - (lenD (sz b) - k) + (lenD (sz b) - k) = e by omega]
      exact h1
    have hmod : sz b % 10 ^ (lenD (sz b) - k) = 0 := by
      have hg := Nat.mul_mod_left (10 ^ (lenD (sz b) - k)) (N * 10 ^ (e - (lenD (sz b) - k)))
      rw [Nat.mul_comm] at hg
      exact (congrArg (· % 10 ^ (lenD (sz b) - k)) hdiv).trans (by rw [Nat.mul_mod_left])
    have hdm := Nat.div_add_mod (sz b) (10 ^ (lenD (sz b) - k))
    rw [hmod, Nat.add_zero, Nat.mul_comm] at hdm
    have hpp := pow10 (lenD (sz b) - k)
    unfold upN
    rw [hmod, Nat.mul_zero, decide_eq_false (by omega), show (0 == 10 ^ (lenD (sz b) - k)) = false by rw [beq_eq_false_iff_ne]; omega]
    rw [Bool.false_and, Bool.or_false, if_neg (by decide), Nat.add_zero, hdm]
  · rw [if_neg h]
/-- Rounded to seventeen digits it rounds back to the float. -/
theorem round_17 {b : Nat} (h0 : 0 < b) : insD b (roundN (sz b) 17) = true := by
  by_cases h : 17 < lenD (sz b)
  · obtain ⟨h1, h2, _⟩ := round_near h
    obtain ⟨_, g1, g2⟩ := sz_gap h0
    have hs := sz_in h0
    have hge := lenD_ge (x := sz b) (by omega)
    generalize roundN (sz b) 17 = X at *
    generalize sz b = S at *
    have e : 10 ^ (lenD S - 1) = 10 ^ (lenD S - 17) * 10000000000000000 := by
      rw [show (10000000000000000 : Nat) = 10 ^ 16 from rfl, ← Nat.pow_add]
      congr 1
      omega
    rw [e] at hge
    have hp := pow10 (lenD S - 17)
    generalize 10 ^ (lenD S - 17) = p at *
    rw [insD_iff]
    left
    generalize fromN b = F at *
    generalize toN b = T at *
    omega
  · have e : roundN (sz b) 17 = sz b := by unfold roundN; rw [if_neg h]
    rw [e]
    exact insD_sz h0
theorem again_zero {n : Nat} (h : n % 9223372036854775808 = 0) (hn : n < 18446744073709551616) : againP (false, [], 0) n = 0 := by
  have hs : svI n = 0 := by
    unfold svI
    by_cases hs : n < 9223372036854775808
    · rw [if_pos hs, show n = 0 by omega, Fl_zero]; rfl
    · rw [if_neg hs, show n - 9223372036854775808 = 0 by omega, Fl_zero]; rfl
  have hf : fsign n = 0 := by unfold fsign; rw [hs, if_neg (by omega), if_pos rfl]
  unfold againP
  rw [hf]
  rfl
/-- All of a float's digits are the float. -/
theorem exact_again {n b : Nat} (hn : n < 18446744073709551616) (hb : n % 9223372036854775808 = b) (h1 : b ≤ most) (w : World) :
    Calls Tryz.prog 36 #[.string ⟨(gS (decide (9223372036854775808 < n)) ++ formN (sz b)).toArray⟩, .int .u64 (n : Int)] w fun e w' => e = .returned (.tuple #[.int .i64 0, .nilIface]) ∧ Below w.heap.size w w' := by
  obtain ⟨p1, d, p2, p3, p4, p5⟩ := form_parse (decide (9223372036854775808 < n)) (sz b)
  have hl := form_size (sz_lt h1)
  have hlen : (gS (decide (9223372036854775808 < n)) ++ formN (sz b)).length ≤ 140737488353000 := by
    have hg : (gS (decide (9223372036854775808 < n))).length ≤ 1 := by unfold gS; split <;> simp
    rw [List.length_append]
    generalize (formN (sz b)).length = l at *
    omega
  have hfin : finB n = true := by unfold finB; rw [hb]; exact decide_eq_true h1
  have hc := against_ok _ n w hlen hn hfin p1
  obtain ⟨a, c, dd⟩ := strip_val d p5
  have hB := stripD_bare
  have hBB := bareP_bare (gS (decide (9223372036854775808 < n)) ++ formN (sz b))
  rw [p2] at hBB hc
  obtain ⟨k, hk⟩ : ∃ k, k = 800 := ⟨_, rfl⟩
  obtain ⟨N, e, h8, h9⟩ := (sz_800 h1 k hk).1
  have hshort : (stripD d).2.1.length ≤ 800 := by rw [← hk]; exact bare_len hBB (by rw [a, p3, h8]) h9
  have hag : againP (stripD d) n = 0 := by
    by_cases h0 : b = 0
    · have hz : sz 0 = 0 := by unfold sz; rw [Fl_zero, Nat.mul_zero, Nat.zero_mul]
      have he : (stripD d).2.1 = [] := by
        rcases List.eq_nil_or_concat (stripD d).2.1 with h | ⟨x, y, h⟩
        · exact h
        · have := val_pos (hBB.lead (by rw [h]; simp))
          rw [a, p3, h0, hz] at this
          omega
      rw [hBB.2.1 he]
      exact again_zero (by rw [hb, h0]) hn
    · have hs := sz_pos (show 0 < b by omega)
      have hne : (stripD d).2.1 ≠ [] := fun h => by
        have := val_zero h
        rw [a, p3] at this
        omega
      by_cases hsg : 9223372036854775808 < n
      · have e1 : n = b + 9223372036854775808 := by omega
        rw [e1, again_neg hBB c hshort (by rw [dd hne, p4]; exact decide_eq_true hsg) hne (by omega) h1, a, p3, cmpI_eq]
        rfl
      · have e1 : n = b := by omega
        rw [e1, again_val hBB c hshort (by rw [dd hne, p4]; exact decide_eq_false hsg) h1, a, p3, cmpI_eq]
  rw [hag] at hc
  exact hc
end Go.Proofs.YtnajondbdeclmaaGreatDoor
namespace Go.Proofs.YtnajondbdeclmaaGreatDoor.digitsAll
open Go.RowKit
set_option linter.unusedSimpArgs false
set_option linter.unusedVariables false

set_option maxRecDepth 100000 in
set_option maxHeartbeats 4000000 in
theorem all_walk (n b : Nat) (d c s : List UInt8) (x k : Int) (w : World)
    (hand : bits .andNot .u64 (n : Int) 9223372036854775808 = (b : Int))
    (HF : Hid (∀ W, Calls Tryz.prog 33 #[.int .u64 (n : Int)] W fun e w' => e = .returned (.bool true) ∧ W = w'))
    (HE : Hid (∀ W, Calls Tryz.prog 20 #[.int .u64 (n : Int)] W fun e w' => e = .returned (.tuple #[.string ⟨s.toArray⟩, .nilIface]) ∧ Below W.heap.size W w'))
    (HR8 : Hid (∀ W, Calls Tryz.prog 24 #[.int .u64 (n : Int), .int .i64 800] W fun e w' => e = .returned (.tuple #[.string ⟨d.toArray⟩, .int .i64 x, .nilIface]) ∧ Below W.heap.size W w'))
    (HR1 : Hid (∀ W, Calls Tryz.prog 24 #[.int .u64 (n : Int), .int .i64 17] W fun e w' => e = .returned (.tuple #[.string ⟨c.toArray⟩, .int .i64 k, .nilIface]) ∧ Below W.heap.size W w'))
    (HL8 : Hid (∀ W, Below w.heap.size w W → Calls Tryz.prog 41 #[.string ⟨d.toArray⟩, .int .i64 x] W fun r w' => r = .returned (.string ⟨(litL d x).toArray⟩) ∧ Below W.heap.size W w'))
    (HL1 : Hid (∀ W, Below w.heap.size w W → Calls Tryz.prog 41 #[.string ⟨c.toArray⟩, .int .i64 k] W fun r w' => r = .returned (.string ⟨(litL c k).toArray⟩) ∧ Below W.heap.size W w'))
    (HA8 : Hid (∀ W, Calls Tryz.prog 36 #[.string ⟨(litL d x).toArray⟩, .int .u64 (b : Int)] W fun e w' => e = .returned (.tuple #[.int .i64 0, .nilIface]) ∧ Below W.heap.size W w'))
    (HB : Hid (∀ W, Calls Tryz.prog 42 #[.string ⟨(litL c k).toArray⟩] W fun e w' => e = .returned (.tuple #[.int .u64 (b : Int), .nilIface]) ∧ Below W.heap.size W w'))
    (HAS : Hid (∀ W, Calls Tryz.prog 36 #[.string ⟨s.toArray⟩, .int .u64 (n : Int)] W fun e w' => e = .returned (.tuple #[.int .i64 0, .nilIface]) ∧ Below W.heap.size W w'))
    (HW : Hid (∀ W, Below w.heap.size w W → Calls Tryz.prog 16 #[] W fun e w' => e = .returned (.bool true) ∧ Below W.heap.size W w')) :
    Calls Tryz.prog 12 #[.int .u64 (n : Int)] w fun e w' => e = .returned (.bool true) ∧ Below w.heap.size w w' := by
  have BB := Lib.hid (Below.refl w.heap.size w)
  go_enter Tryz.func12, Tryz.ntmps12
  go_wp2_with fail
  refine (HF.out _).mono ?_
  rintro e w0 ⟨rfl, rfl⟩
  go_wp2_with fail
  refine (HE.out _).mono ?_
  rintro e wq ⟨rfl, hb⟩
  have BB := Lib.hid (keepb BB.out hb)
  clear hb
  go_wp2_with fail
  refine (HR8.out _).mono ?_
  rintro e wq ⟨rfl, hb⟩
  have BB := Lib.hid (keepb BB.out hb)
  clear hb
  go_wp2_with fail
  refine (HR1.out _).mono ?_
  rintro e wq ⟨rfl, hb⟩
  have BB := Lib.hid (keepb BB.out hb)
  clear hb
  go_wp2_with fail
  refine (HL8.out _ BB.out).mono ?_
  rintro e wq ⟨rfl, hb⟩
  have BB := Lib.hid (keepb BB.out hb)
  clear hb
  go_wp2_with fail
  refine (HA8.out _).mono ?_
  rintro e wq ⟨rfl, hb⟩
  have BB := Lib.hid (keepb BB.out hb)
  clear hb
  go_wp2_with fail
  refine (HL1.out _ BB.out).mono ?_
  rintro e wq ⟨rfl, hb⟩
  have BB := Lib.hid (keepb BB.out hb)
  clear hb
  go_wp2_with fail
  refine (HB.out _).mono ?_
  rintro e wq ⟨rfl, hb⟩
  have BB := Lib.hid (keepb BB.out hb)
  clear hb
  go_wp2_with fail
  refine (HAS.out _).mono ?_
  rintro e wq ⟨rfl, hb⟩
  have BB := Lib.hid (keepb BB.out hb)
  clear hb
  go_wp2_with fail
  refine (HW.out _ BB.out).mono ?_
  rintro e wq ⟨rfl, hb⟩
  have BB := Lib.hid (keepb BB.out hb)
  clear hb
  go_wp2_with fail
  go_ret
  exact ⟨rfl, BB.out⟩
set_option maxRecDepth 100000 in
theorem all_no (n : Nat) (w : World)
    (HF : Hid (∀ W, Calls Tryz.prog 33 #[.int .u64 (n : Int)] W fun e w' => e = .returned (.bool false) ∧ W = w'))
    (HW : Hid (∀ W, Below w.heap.size w W → Calls Tryz.prog 16 #[] W fun e w' => e = .returned (.bool true) ∧ Below W.heap.size W w')) :
    Calls Tryz.prog 12 #[.int .u64 (n : Int)] w fun e w' => e = .returned (.bool true) ∧ Below w.heap.size w w' := by
  go_enter Tryz.func12, Tryz.ntmps12
  go_wp2_with fail
  refine (HF.out _).mono ?_
  rintro e w0 ⟨rfl, rfl⟩
  go_wp2_with fail
  refine (HW.out _ (Below.refl _ _)).mono ?_
  rintro e w6 ⟨rfl, hb⟩
  go_wp2_with fail
  go_ret
  exact ⟨rfl, hb⟩
theorem row_size {X : Nat} (h0 : 0 < X) (hX : X < 2 ^ bigE) : (rowN X).1.length ≤ 100000 ∧ -100000 ≤ (rowN X).2 ∧ (rowN X).2 ≤ 100000 := by
  have hL := lenD_le hX
  have hle : lenE = 2160 := rfl
  obtain ⟨k, hk⟩ := noughtsR_spec (dtext X)
  have hl := congrArg List.length hk
  rw [List.length_append] at hl
  have h1 : (rowN X).1 = noughtsR (dtext X) := rfl
  have h2 : (rowN X).2 = ((dtext X).length : Int) - 1075 := rfl
  have h3 : (dtext X).length = lenD X := rfl
  rw [h1, h2]
  clear hX
  omega
theorem walk (a0 : Int) (w : World) (w0 : (Lit.int .u64 a0).wf = true) (ht : Tab w) :
    Calls Tryz.prog 12 #[.int .u64 a0] w fun e w' => e = .returned (.bool true) ∧ Below w.heap.size w w' := by
  obtain ⟨n, rfl, hn⟩ := word_wf w0
  obtain ⟨b, hb⟩ : ∃ b, n % 9223372036854775808 = b := ⟨_, rfl⟩
  have hW := Lib.hid (fun W (h : Below w.heap.size w W) => works_yes W (ht.below h))
  have hand := andnot_top n hn
  rw [hb] at hand
  by_cases h1 : b ≤ most
  · have hfin : finB n = true := by unfold finB; rw [hb]; exact decide_eq_true h1
    have HF := Lib.hid (fun W => by have := finite_any n W hn; rwa [hfin] at this)
    have HE := Lib.hid (fun W => exact_fin n b W hn hb h1)
    have HAS := Lib.hid (fun W => exact_again hn hb h1 W)
    by_cases h0 : b = 0
    · have hnum : NumT (litL [48] 1) 0 := by
        have h := lit_num (d := [48]) (n := 1) (by decide) (by decide) (.inl rfl) (by decide) (by rw [unitE_eq]; decide) (by decide)
        have e : valX (rowD ([48], 1)) = 0 := by rw [valX_rowD, show dval [48] = 0 from rfl, Nat.zero_mul]
        rwa [e] at h
      have hl := fun W (hB : Below w.heap.size w W) => literal_d [48] 1 W (by decide) (by decide) (by decide) (ht.below hB)
      have hz : sz b = 0 := by rw [h0]; unfold sz; rw [Fl_zero, Nat.mul_zero, Nat.zero_mul]
      refine all_walk n b [48] [48] _ 1 1 w hand HF HE (Lib.hid (fun W => rounded_zero n 800 W hn (by rw [hb, h0]) (by decide) (by decide))) (Lib.hid (fun W => rounded_zero n 17 W hn (by rw [hb, h0]) (by decide) (by decide))) (Lib.hid hl) (Lib.hid hl) ?_ ?_ HAS hW
      · refine Lib.hid (fun W => ?_)
        have := ag_num hnum b h1 W
        rwa [hz, cmpI_eq] at this
      · refine Lib.hid (fun W => ?_)
        exact bits_num hnum h1 (insD_iff.2 (.inr ⟨by rw [h0], .inl (by rw [h0]; rfl)⟩)) W
    · have hb0 : 0 < b := by omega
      have hS := sz_pos hb0
      have hi := round_17 hb0
      have hX : roundN (sz b) 17 < 2 ^ bigE := by
        have h2 := insD_iff.1 hi
        have h3 := toN_lt h1
        have h4 := from_lt_to b
        omega
      have hX0 : 0 < roundN (sz b) 17 := by
        have h2 := insD_iff.1 hi
        have h3 := from_pos hb0
        have h4 := from_lt_to b
        omega
      have n8 := row_num hS (sz_lt h1) (fun k hk => (sz_800 h1 k hk).1)
      have n17 : NumT (litL (rowN (roundN (sz b) 17)).1 (rowN (roundN (sz b) 17)).2) (roundN (sz b) 17) := by
        refine row_num hX0 hX (fun k hk => ?_)
        by_cases h : 17 < lenD (sz b)
        · obtain ⟨_, _, v, hv, hv2⟩ := round_near h
          refine ⟨v, _, hv, ?_⟩
          have hlt := lenD_lt (sz b)
          have hd : sz b / 10 ^ (lenD (sz b) - 17) < 10 ^ 17 := by
            rw [Nat.div_lt_iff_lt_mul (pow10 _), ← Nat.pow_add, show 17 + (lenD (sz b) - 17) = lenD (sz b) by omega]
            exact hlt
          have : 10 ^ 17 < 10 ^ k := Nat.pow_lt_pow_right (by decide) (by omega)
          omega
        · have e : roundN (sz b) 17 = sz b := by unfold roundN; rw [if_neg h]
          rw [e]
          exact (sz_800 h1 k hk).1
      obtain ⟨r1, r2, r3⟩ := row_size hS (sz_lt h1)
      obtain ⟨q1, q2, q3⟩ := row_size hX0 hX
      refine all_walk n b (rowN (sz b)).1 (rowN (roundN (sz b) 17)).1 _ (rowN (sz b)).2 (rowN (roundN (sz b) 17)).2 w hand HF HE ?_ ?_ ?_ ?_ ?_ ?_ HAS hW
      · refine Lib.hid (fun W => ?_)
        have := rounded_fin n b 800 W hn hb h1 h0 (by decide) (by decide)
        rwa [round_800 h1 hb0] at this
      · exact Lib.hid (fun W => rounded_fin n b 17 W hn hb h1 h0 (by decide) (by decide))
      · exact Lib.hid (fun W hB => literal_d _ _ W r1 r2 r3 (ht.below hB))
      · exact Lib.hid (fun W hB => literal_d _ _ W q1 q2 q3 (ht.below hB))
      · refine Lib.hid (fun W => ?_)
        have := ag_num n8 b h1 W
        rwa [cmpI_eq] at this
      · exact Lib.hid (fun W => bits_num n17 h1 hi W)
  · have hfin : finB n = false := by unfold finB; rw [hb]; exact decide_eq_false h1
    exact all_no n w (Lib.hid (fun W => by have := finite_any n W hn; rwa [hfin] at this)) hW
end Go.Proofs.YtnajondbdeclmaaGreatDoor.digitsAll
