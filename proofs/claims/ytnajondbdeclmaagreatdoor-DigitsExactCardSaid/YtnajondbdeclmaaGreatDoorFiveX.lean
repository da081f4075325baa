/- The reference's digits: all of a float's digits (Exact), what rounds to it (Around). -/
import Derived.Test.YtnajondbdeclmaaGreatDoorFiveM
import Derived.Test.YtnajondbdeclmaaGreatDoorDigK
namespace Go.Proofs.YtnajondbdeclmaaGreatDoor
open Go.RowKit
attribute [local go_sem] SGives_value SGives_skip SGives_enter CGives_value CGives_skip CGives_enter MGives_value MGives_skip MGives_enter
set_option linter.unusedSimpArgs false
set_option linter.unusedVariables false

theorem rform_b (x : Nat) (w : World) (hx : (tx x).length ≤ 5000) :
    Calls Tryz.prog 74 #[.string ⟨(tx x).toArray⟩] w fun e w' => e = .returned (.string ⟨(formN x).toArray⟩) ∧ Below w.heap.size w w' :=
  (rform_any x w hx).mono fun e w' ⟨h1, h2⟩ => ⟨h1, by rw [← h2]; exact Below.refl _ _⟩
theorem tx_le {x : Nat} (h : x < 2 ^ bigE) : (tx x).length ≤ 2160 := by
  unfold tx
  have h2 := lenD_le h
  have h3 : lenE = 2160 := rfl
  split
  · exact Nat.zero_le _
  · show lenD x ≤ 2160
    omega
theorem form_zero : formN 0 = [48] := by
  have hp := padN_tx 0
  have e1 : formN 0 = (padN 0).take ((padN 0).length - unitE) ++ pB (noughtsR ((padN 0).drop ((padN 0).length - unitE))) := by unfold formN wholeN restN; exact Eq.refl _
  rw [tx_zero, List.append_nil, List.length_nil, Nat.sub_zero] at hp
  rw [e1, hp]
  generalize unitE = u
  rw [List.length_replicate, show u + 1 - u = 1 by omega, List.take_replicate, List.drop_replicate, Nat.min_eq_left (by omega), show u + 1 - 1 = u by omega]
  have := noughtsR_app [] u
  rw [List.nil_append] at this
  rw [this]
  rfl
theorem form_one {x : Nat} (h : 0 < x) : formN x ≠ [48] := by
  intro h0
  have hp := padN_tx x
  have hlen : unitE < (padN x).length := padN_len x
  have hv : dval (padN x) = x := by rw [hp, dval_append, dval_zeros, Nat.zero_mul, Nat.zero_add, tx_val]
  have e1 : formN x = (padN x).take ((padN x).length - unitE) ++ pB (noughtsR ((padN x).drop ((padN x).length - unitE))) := by unfold formN wholeN restN; exact Eq.refl _
  rw [h0] at e1
  generalize padN x = S at *
  obtain ⟨P, hP⟩ : ∃ P, S.length - unitE = P := ⟨_, rfl⟩
  rw [hP] at e1
  obtain ⟨k, hk⟩ := noughtsR_spec (S.drop P)
  have hl := congrArg List.length e1
  rw [List.length_append, List.length_take, List.length_singleton] at hl
  have hpb : (pB (noughtsR (S.drop P))).length = 0 := by omega
  have hn : noughtsR (S.drop P) = [] := by
    unfold pB at hpb
    split at hpb
    · assumption
    · simp at hpb
  rw [hn, List.nil_append] at hk
  have ht : S.take P = [48] := by
    have : pB (noughtsR (S.drop P)) = [] := List.eq_nil_of_length_eq_zero hpb
    rw [this, List.append_nil] at e1
    exact e1.symm
  have hS := List.take_append_drop P S
  rw [ht, hk] at hS
  have h2 : dval ([48] ++ List.replicate k 48) = 0 := by rw [dval_append, dval_zeros, show dval [48] = 0 from rfl, Nat.zero_mul]
  rw [hS, hv] at h2
  omega
set_option maxRecDepth 100000 in
set_option maxHeartbeats 2000000 in
theorem rexact_walk (n z : Nat) (sg : Bool) (s f er : List UInt8) (w : World)
    (HF : Hid (∀ W, Calls Tryz.prog 58 #[.int .u64 (n : Int)] W fun e w' => e = .returned (.bool true) ∧ W = w'))
    (HSZ : Hid (∀ W, Calls Tryz.prog 59 #[.int .u64 (n : Int)] W fun e w' => e = .returned (.string ⟨s.toArray⟩) ∧ Below W.heap.size W w'))
    (HFO : Hid (∀ W, Calls Tryz.prog 74 #[.string ⟨s.toArray⟩] W fun e w' => e = .returned (.string ⟨f.toArray⟩) ∧ Below W.heap.size W w'))
    (hlI : (f.length : Int) ≤ 10000) (e1 : (n : Int) / 9223372036854775808 = (z : Int)) (hnI : (n : Int) ≤ 18446744073709551615)
    (HZ : Hid ((z = 1 ∧ f ≠ [48] ∧ sg = true) ∨ (z = 1 ∧ f = [48] ∧ sg = false) ∨ (z = 0 ∧ sg = false))) (HEX : Hid (er = gS sg ++ f)) :
    Calls Tryz.prog 21 #[.int .u64 (n : Int)] w fun e w' => e = .returned (.tuple #[.string ⟨er.toArray⟩, .int .i64 0]) ∧ Below w.heap.size w w' := by
  have hcat := sv_cat [45] f
  go_enter Tryz.func21, Tryz.ntmps21
  go_wp2_with fail
  refine (HF.out _).mono ?_
  rintro e w1 ⟨rfl, rfl⟩
  go_wp2_with fail
  refine (HSZ.out _).mono ?_
  rintro e w2 ⟨rfl, hb⟩
  have BB := Lib.hid hb
  clear hb
  go_wp2_with fail
  refine (HFO.out _).mono ?_
  rintro e w3 ⟨rfl, hb⟩
  have BB := Lib.hid (keepb BB.out hb)
  clear hb
  rcases HZ.out with ⟨rfl, hm, rfl⟩ | ⟨rfl, rfl, rfl⟩ | ⟨rfl, rfl⟩
  · have HV := Lib.hid (show er = [45] ++ f by rw [HEX.out]; rfl)
    have t1 : (f == [48]) = false := by rw [beq_eq_false_iff_ne]; exact hm
    go_wp2_with fail
    go_ret2
    exact ⟨by rw [HV.out] <;> rfl, BB.out⟩
  · have HV := Lib.hid (show er = [48] by rw [HEX.out]; rfl)
    go_wp2_with fail
    go_ret2
    exact ⟨by rw [HV.out] <;> rfl, BB.out⟩
  · have HV := Lib.hid (show er = f by rw [HEX.out]; rfl)
    go_wp2_with fail
    go_ret2
    exact ⟨by rw [HV.out] <;> rfl, BB.out⟩
set_option maxRecDepth 100000 in
theorem rexact_inf (n : Nat) (w : World) (hn : n < 18446744073709551616) (h : most < n % 9223372036854775808) :
    Calls Tryz.prog 21 #[.int .u64 (n : Int)] w fun e w' => e = .returned (.tuple #[.string ⟨#[]⟩, .int .i64 50]) ∧ Below w.heap.size w w' := by
  have HF := Lib.hid (fun W => by have := rfinite_any n W hn; rwa [show finB n = false by unfold finB; exact decide_eq_false (by omega)] at this)
  clear h hn
  go_enter Tryz.func21, Tryz.ntmps21
  go_wp2_with fail
  refine (HF.out _).mono ?_
  rintro e w1 ⟨rfl, rfl⟩
  go_wp2_with fail
  go_ret2
  exact ⟨rfl, Below.refl _ _⟩
theorem rexact_fin (n b : Nat) (w : World) (hn : n < 18446744073709551616) (hbn : n % 9223372036854775808 = b) (hb : b ≤ most) :
    Calls Tryz.prog 21 #[.int .u64 (n : Int)] w fun e w' => e = .returned (.tuple #[.string ⟨(gS (decide (9223372036854775808 < n)) ++ formN (sz b)).toArray⟩, .int .i64 0]) ∧ Below w.heap.size w w' := by
  have hS := sz_lt hb
  have HF := Lib.hid (fun W => by have := rfinite_any n W hn; rwa [show finB n = true by unfold finB; rw [hbn]; exact decide_eq_true hb] at this)
  have HSZ := Lib.hid (fun W => rsize_any n b W hn hbn hb)
  have HFO := Lib.hid (fun W => rform_b (sz b) W (Nat.le_trans (tx_le hS) (by decide)))
  have hfl := form_size hS
  have hz : formN (sz b) = [48] ↔ b = 0 := by
    constructor
    · intro h
      rcases Nat.eq_zero_or_pos b with h0 | h0
      · exact h0
      · exact absurd h (form_one (sz_pos h0))
    · intro h
      have hz : sz 0 = 0 := by unfold sz; rw [Fl_zero, Nat.mul_zero, Nat.zero_mul]
      rw [h, hz, form_zero]
  generalize formN (sz b) = f at *
  generalize tx (sz b) = t at *
  have hq : n / 9223372036854775808 = 0 ∨ n / 9223372036854775808 = 1 := by omega
  obtain ⟨z, hzz⟩ : ∃ z, n / 9223372036854775808 = z := ⟨_, rfl⟩
  refine rexact_walk n z (decide (9223372036854775808 < n)) t f _ w HF HSZ HFO (by omega) (by omega) (by omega) (Lib.hid ?_) (Lib.hid rfl)
  rw [hzz] at hq
  rcases hq with h | h
  · exact .inr (.inr ⟨h, decide_eq_false (by omega)⟩)
  · by_cases h0 : b = 0
    · exact .inr (.inl ⟨h, hz.2 h0, decide_eq_false (by omega)⟩)
    · exact .inl ⟨h, fun h2 => h0 (hz.1 h2), decide_eq_true (by omega)⟩
set_option maxRecDepth 100000 in
set_option maxHeartbeats 2000000 in
theorem raround_walk (n : Nat) (s1 s2 f1 f2 : List UInt8) (cl : Bool) (w : World)
    (HF : Hid (∀ W, Calls Tryz.prog 58 #[.int .u64 (n : Int)] W fun e w' => e = .returned (.bool true) ∧ W = w'))
    (HE : Hid (∀ W, Calls Tryz.prog 60 #[.int .u64 (n : Int)] W fun e w' => e = .returned (.tuple #[.string ⟨s1.toArray⟩, .string ⟨s2.toArray⟩, .bool cl]) ∧ Below W.heap.size W w'))
    (HF1 : Hid (∀ W, Calls Tryz.prog 74 #[.string ⟨s1.toArray⟩] W fun e w' => e = .returned (.string ⟨f1.toArray⟩) ∧ Below W.heap.size W w'))
    (HF2 : Hid (∀ W, Calls Tryz.prog 74 #[.string ⟨s2.toArray⟩] W fun e w' => e = .returned (.string ⟨f2.toArray⟩) ∧ Below W.heap.size W w')) :
    Calls Tryz.prog 23 #[.int .u64 (n : Int)] w fun e w' => e = .returned (.tuple #[.agg #[.string ⟨f1.toArray⟩, .string ⟨f2.toArray⟩, .bool cl], .int .i64 0]) ∧ Below w.heap.size w w' := by
  have B0 := Lib.hid (Blk.new w 40 #[.string ⟨#[]⟩, .string ⟨#[]⟩, .bool false])
  have BB := Lib.hid (below_new w (.cells #[.string ⟨#[]⟩, .string ⟨#[]⟩, .bool false] 40))
  go_enter Tryz.func23, Tryz.ntmps23
  go_wp2_with fail
  refine (HF.out _).mono ?_
  rintro e w1 ⟨rfl, rfl⟩
  go_wp2_with fail
  refine (HE.out _).mono ?_
  rintro e w2 ⟨rfl, hb2⟩
  have B0 := Lib.hid (B0.out.st hb2)
  have BB := Lib.hid (keepb BB.out hb2)
  clear hb2
  go_wp2_with fail
  refine (HF1.out _).mono ?_
  rintro e w3 ⟨rfl, hb⟩
  have B0 := Lib.hid (B0.out.st hb)
  have BB := Lib.hid (keepb BB.out hb)
  clear hb
  go_wp2_with fail
  refine (HF2.out _).mono ?_
  rintro e w4 ⟨rfl, hb⟩
  have B0 := Lib.hid (B0.out.st hb)
  have BB := Lib.hid (keepb BB.out hb)
  clear hb
  obtain ⟨c0, c1, c2, g0, g1, g2⟩ := B0.out.three
  have hp := B0.out.put3 (.string ⟨f1.toArray⟩) (.string ⟨f2.toArray⟩) (.bool cl)
  have hbl := below_put3 BB.out (Nat.le_refl _) (.string ⟨f1.toArray⟩) (.string ⟨f2.toArray⟩) (.bool cl)
  have HP3 := Lib.hid hp
  clear hp
  go_wp2_with fail
  obtain ⟨e0, e1, e2⟩ := HP3.out
  exact bodyPost_ret (v := .tuple #[.agg #[.string ⟨f1.toArray⟩, .string ⟨f2.toArray⟩, .bool cl], .int .i64 0]) (by simp [results, Tryz.results23, go_sem, e0, e1, e2]) rfl ⟨rfl, hbl⟩
theorem raround_fin (n b : Nat) (w : World) (hn : n < 18446744073709551616) (hbn : n % 9223372036854775808 = b) (hb : b ≤ most) :
    Calls Tryz.prog 23 #[.int .u64 (n : Int)] w fun e w' => e = .returned (.tuple #[.agg #[.string ⟨(formN (fromN b)).toArray⟩, .string ⟨(formN (toN b)).toArray⟩, .bool (b % 2 == 0)], .int .i64 0]) ∧ Below w.heap.size w w' := by
  have hT : toN b < 2 ^ bigE := toN_lt hb
  have hF : fromN b < 2 ^ bigE := Nat.lt_of_le_of_lt (fromN_le b) hT
  refine raround_walk n (tx (fromN b)) (tx (toN b)) _ _ _ w ?_ (Lib.hid (fun W => rends_any n b W hn hbn hb)) (Lib.hid (fun W => rform_b _ W (Nat.le_trans (tx_le hF) (by decide)))) (Lib.hid (fun W => rform_b _ W (Nat.le_trans (tx_le hT) (by decide))))
  exact Lib.hid (fun W => by have := rfinite_any n W hn; rwa [show finB n = true by unfold finB; rw [hbn]; exact decide_eq_true hb] at this)
set_option maxRecDepth 100000 in
theorem raround_inf (n : Nat) (w : World) (hn : n < 18446744073709551616) (h : most < n % 9223372036854775808) :
    Calls Tryz.prog 23 #[.int .u64 (n : Int)] w fun e w' => e = .returned (.tuple #[.agg #[.string ⟨#[]⟩, .string ⟨#[]⟩, .bool false], .int .i64 50]) ∧ Below w.heap.size w w' := by
  have HF := Lib.hid (fun W => by have := rfinite_any n W hn; rwa [show finB n = false by unfold finB; exact decide_eq_false (by omega)] at this)
  have B0 := Lib.hid (Blk.new w 40 #[.string ⟨#[]⟩, .string ⟨#[]⟩, .bool false])
  have BB := Lib.hid (below_new w (.cells #[.string ⟨#[]⟩, .string ⟨#[]⟩, .bool false] 40))
  clear hn h
  go_enter Tryz.func23, Tryz.ntmps23
  go_wp2_with fail
  refine (HF.out _).mono ?_
  rintro e w1 ⟨rfl, rfl⟩
  go_upto_region 2 with fail
  obtain ⟨W, hW⟩ : ∃ W, w.alloc (.cells #[.string ⟨#[]⟩, .string ⟨#[]⟩, .bool false] 40) = W := ⟨_, rfl⟩
  rw [hW] at B0 BB ⊢
  clear hW
  obtain ⟨c0, c1, c2, f0, f1, f2⟩ := B0.out.three
  have hp := B0.out.put3 (.string ⟨#[]⟩) (.string ⟨#[]⟩) (.bool false)
  have hbl := below_put3 BB.out (Nat.le_refl _) (.string ⟨#[]⟩) (.string ⟨#[]⟩) (.bool false)
  have HP3 := Lib.hid hp
  clear hp
  go_wp2_with fail
  obtain ⟨e0, e1, e2⟩ := HP3.out
  exact bodyPost_ret (v := .tuple #[.agg #[.string ⟨#[]⟩, .string ⟨#[]⟩, .bool false], .int .i64 50]) (by simp [results, Tryz.results23, go_sem, e0, e1, e2]) rfl ⟨rfl, hbl⟩
end Go.Proofs.YtnajondbdeclmaaGreatDoor
