/- The program's digits: Text of any float; a third is told with its sixteen digits (works). The laws of digits: texts that are numbers; the laws' own small functions (works, finite, literal, inside, right). -/
import Derived.Test.YtnajondbdeclmaaGreatDoorDigJ
import Derived.Test.YtnajondbdeclmaaGreatDoorDigV
import Derived.Test.YtnajondbdeclmaaGreatDoorDecN
namespace Go.Proofs.YtnajondbdeclmaaGreatDoor
open Go.RowKit
set_option linter.unusedSimpArgs false
set_option linter.unusedVariables false

/-- What Text answers of a float. -/
def textV (n : Nat) : Value :=
  if most < n % 9223372036854775808 then .tuple #[.string ⟨#[]⟩, enoV 50]
  else if isWhole (n % 9223372036854775808) then .tuple #[.string ⟨(Lib.itoa (wholeI n)).toArray⟩, .nilIface]
  else .tuple #[.string ⟨(textR (decide (9223372036854775808 ≤ n)) (shortR (n % 9223372036854775808)).1 (shortR (n % 9223372036854775808)).2).toArray⟩, .nilIface]
theorem inf_less {n : Nat} (hn : n < 18446744073709551616) (h : most < n % 9223372036854775808) : (FloatKind.f64.format.order (n % 9223372036854775808) 4845873199050653696 == some .lt) = false := by
  have hm : ¬ n % 9223372036854775808 ≤ 9218868437227405311 := by unfold most at h; omega
  have r3 : ∃ m e, FloatKind.f64.format.read 4845873199050653696 = .number false m e := ⟨_, _, rfl⟩
  obtain ⟨m, e, r3⟩ := r3
  by_cases he : n % 9223372036854775808 = 9218868437227405312
  · have r2 : FloatKind.f64.format.read (n % 9223372036854775808) = .infinity false := by rw [he]; decide
    unfold Ieee.Format.order
    rw [r2, r3]
    rfl
  · have r1 : ∃ s f, FloatKind.f64.format.read (n % 9223372036854775808) = .nan s f := by
      unfold Ieee.Format.read
      rw [f64_sign, f64_binade, f64_inf, f64_least]
      simp only []
      rw [Nat.mod_mod, if_neg (by omega), if_neg (by omega), if_neg he]
      exact ⟨_, _, rfl⟩
    obtain ⟨s, f, r1⟩ := r1
    unfold Ieee.Format.order
    rw [r1]
    rfl
set_option maxHeartbeats 2000000 in
set_option maxRecDepth 100000 in
theorem text_inf (n : Nat) (w : World) (hn : n < 18446744073709551616) (h : most < n % 9223372036854775808) :
    Calls Tryz.prog 17 #[.float .f64 n] w fun e w' => e = .returned (.tuple #[.string ⟨#[]⟩, enoV 50]) ∧ Below w.heap.size w w' := by
  have ho := inf_less hn h
  have HA := Lib.hid (fun W => abs_any n W hn)
  have HT := Lib.hid (fun W => trunc_all n W)
  have HB := call_bits n
  have HS := Lib.hid (fun W => by
    have := dshort_any n W hn
    unfold shortV at this
    rw [if_pos h] at this
    exact this)
  generalize n % 9223372036854775808 = b at *
  clear h hn
  go_enter Tryz.func17, Tryz.ntmps17
  go_wp2_with fail
  refine (HT.out _).mono ?_
  rintro e w1 ⟨t, rfl, hb1⟩
  have HB1 := Lib.hid hb1
  clear hb1
  generalize hO2 : FloatKind.f64.format.order b 4845873199050653696 = o2 at *
  generalize hO1 : FloatKind.f64.format.order n t = o at *
  generalize hq : (o == some .eq) = q at *
  cases q
  case true =>
    go_wp2_with fail
    refine (HA.out _).mono ?_
    rintro e w2 ⟨rfl, rfl⟩
    go_wp2_with fail
    refine (HS.out _).mono ?_
    rintro e w3 ⟨rfl, hb2⟩
    have HB2 := Lib.hid (keepb HB1.out hb2)
    clear hb2
    go_wp2_with fail
    go_ret2
    exact ⟨rfl, HB2.out⟩
  case false =>
    go_wp2_with fail
    refine (HS.out _).mono ?_
    rintro e w3 ⟨rfl, hb2⟩
    have HB2 := Lib.hid (keepb HB1.out hb2)
    clear hb2
    go_wp2_with fail
    go_ret2
    exact ⟨rfl, HB2.out⟩
theorem short_size {b : Nat} (hb : b ≤ most) (h0 : 0 < b) : 1 ≤ (shortR b).1.length ∧ (shortR b).1.length ≤ 17 ∧ -1074 ≤ (shortR b).2 ∧ (shortR b).2 ≤ 1100 ∧ -1075 ≤ (shortR b).2 - ((shortR b).1.length : Int) := by
  have h17 := short_17 h0
  have hp := short_pos h0
  have e : shortR b = rowN (shortN b) := by unfold shortR; rw [if_neg (by omega)]
  rw [e] at h17 ⊢
  have hl := List.length_pos_iff.2 (row_lead hp).2.1
  have hv := (row_val (shortN b)).2.1
  have hu : unitE = 1075 := rfl
  unfold rowD at hv
  simp only at hv
  have h2 : lenD (shortN b) ≤ lenE := by
    refine lenD_le ?_
    have h3 := insD_iff.1 (short_spec h0).1
    have h4 := toN_lt hb
    have h5 := from_lt_to b
    omega
  have h3 : (rowN (shortN b)).2 = (lenD (shortN b) : Int) - 1075 := rfl
  have h4 : lenE = 2160 := rfl
  refine ⟨hl, h17, ?_, by omega, by omega⟩
  have := lenD_pos (shortN b)
  omega
theorem text_fin (n : Nat) (w : World) (hn : n < 18446744073709551616) (hm : n % 9223372036854775808 ≤ most) (hw : isWhole (n % 9223372036854775808) = false) (ht : Tab w) :
    Calls Tryz.prog 17 #[.float .f64 n] w fun e w' => e = .returned (.tuple #[.string ⟨(textR (decide (9223372036854775808 ≤ n)) (shortR (n % 9223372036854775808)).1 (shortR (n % 9223372036854775808)).2).toArray⟩, .nilIface]) ∧ Below w.heap.size w w' := by
  have h0 : 0 < n % 9223372036854775808 := by
    rcases Nat.eq_zero_or_pos (n % 9223372036854775808) with h | h
    · have h2 : isWhole 0 = true := by decide +kernel
      rw [h, h2] at hw; cases hw
    · exact h
  obtain ⟨s1, s2, s3, s4, s5⟩ := short_size hm h0
  refine text_walk n (n % 9223372036854775808) (decide (9223372036854775808 ≤ n)) _ _ w ?_ (Lib.hid (fun W => abs_any n W hn)) (call_bits n) ?_ ?_ s1 (by omega) (by omega) (by omega) ht
  · refine Lib.hid (fun W => ?_)
    by_cases hs : n % 9223372036854775808 < 4845873199050653696
    · obtain ⟨u, hu⟩ : ∃ u, u = 1074 := ⟨_, rfl⟩
      obtain ⟨t, ht1, ht2⟩ := trunc_small hu hn hs
      have h2 : ¬ Fl (n % 9223372036854775808) % 2 ^ u = 0 := by
        intro h
        unfold isWhole at hw
        rw [← hu] at hw
        exact of_decide_eq_false hw ⟨hs, h⟩
      rw [if_neg h2] at ht2
      refine (trunc_any n t W (fun w => ?_)).mono fun e w' ⟨h3, h4⟩ => ⟨t, ⟨h3, by rw [← h4]; exact Below.refl _ _⟩, .inl ?_⟩
      · rw [trunc_eq]
        unfold FloatKind.decode FloatKind.encode at ht1
        unfold truncD FloatKind.decode FloatKind.encode
        rw [read_form n hn hm] at ht1 ⊢
        dsimp only
        rw [ht1]
        rfl
      · rw [ht2]; split <;> rfl
    · refine (trunc_all n W).mono fun e w' ⟨t, h3, h4⟩ => ⟨t, ⟨h3, h4⟩, .inr ?_⟩
      rw [order_sv (by omega) (by rw [Nat.mod_mod]; exact hm) (by decide) (by decide)]
      have : ¬ svI (n % 9223372036854775808) < svI 4845873199050653696 := by
        unfold svI
        rw [if_pos (by omega), if_pos (by decide)]
        have := Fl_le.2 (show 4845873199050653696 ≤ n % 9223372036854775808 by omega)
        omega
      rw [if_neg this]
      split <;> rfl
  · refine Lib.hid (fun W => ?_)
    have := dshort_any n W hn
    unfold shortV at this
    rw [if_neg (by omega)] at this
    exact this
  · rw [order_sv hn hm (by decide) (by decide), sv_nought]
    have hF : 0 < Fl (n % 9223372036854775808) := by
      have := Fl_lt (a := 0) (b := n % 9223372036854775808)
      rw [Fl_zero] at this
      exact this.2 h0
    by_cases hs : n < 9223372036854775808
    · have e : n % 9223372036854775808 = n := Nat.mod_eq_of_lt hs
      have : svI n = (Fl n : Int) := by unfold svI; rw [if_pos hs]
      rw [e] at hF
      rw [this, if_neg (by omega), if_neg (by omega), decide_eq_false (by omega)]
      rfl
    · have e : n % 9223372036854775808 = n - 9223372036854775808 := by omega
      have : svI n = -(Fl (n - 9223372036854775808) : Int) := by unfold svI; rw [if_neg hs]
      rw [e] at hF
      rw [this, if_pos (by omega), decide_eq_true (by omega)]
      rfl
theorem text_any (n : Nat) (w : World) (hn : n < 18446744073709551616) (ht : Tab w) :
    Calls Tryz.prog 17 #[.float .f64 n] w fun e w' => e = .returned (textV n) ∧ Below w.heap.size w w' := by
  unfold textV
  by_cases h : most < n % 9223372036854775808
  · rw [if_pos h]; exact text_inf n w hn h
  · rw [if_neg h]
    cases hw : isWhole (n % 9223372036854775808) with
    | true => rw [if_pos rfl]; exact text_whole n w hn hw ht
    | false => rw [if_neg (by decide)]; exact text_fin n w hn (by omega) hw ht
theorem third_pick (j : Nat) (hj : j = 1059) : pickG (insD 4599676419421066581) (sz 4599676419421066581) 1075 16 = some (3333333333333333 * 10 ^ j) := by subst hj; decide +kernel
theorem third_short : shortR 4599676419421066581 = ([51, 51, 51, 51, 51, 51, 51, 51, 51, 51, 51, 51, 51, 51, 51, 51], 0) := by
  obtain ⟨j, hj⟩ : ∃ j, j = 1059 := ⟨_, rfl⟩
  refine row_at (k := 16) (L := 1075) (v := 3333333333333333) (j := j) (by decide) (by decide +kernel) (by decide +kernel) (by decide) (by decide) (third_pick j hj) (.inr (by decide +kernel)) rfl ?_ (by decide) (by decide) (by decide) (by subst hj; decide)
  exact dtext_canon (by decide) (by decide) (.inl (by decide))
end Go.Proofs.YtnajondbdeclmaaGreatDoor

namespace Go.Proofs.YtnajondbdeclmaaGreatDoor
open Go.RowKit
attribute [local go_sem] SGives_value SGives_skip SGives_enter CGives_value CGives_skip CGives_enter MGives_value MGives_skip MGives_enter
set_option linter.unusedSimpArgs false
set_option linter.unusedVariables false

/-- A text that is a literal of a number of units. -/
structure NumT (s : List UInt8) (X : Nat) : Prop where
  ok : wrongP s = none
  len : s.length ≤ 140737488353000
  pos : (bareP s).1 = false
  lo : -(unitE : Int) ≤ (bareP s).2.2
  val : valX (bareP s) = X
  short : (bareP s).2.1.length ≤ 800
  near : nearP (bareP s).2.2 = true
theorem val_near {d : Dm} (hB : Bare d) (h : -(unitE : Int) ≤ d.2.2) (hX : valX d < 10 ^ bigE) : nearP d.2.2 = true := by
  have hu : unitE = 1075 := rfl
  have hb : bigE = 5400 := rfl
  unfold nearP
  by_cases h0 : d.2.1 = []
  · rw [hB.2.1 h0]; decide
  · have hge := (hB.lead h0).ge
    have h1 : 10 ^ (d.2.2 + (unitE : Int)).toNat ≤ valX d := by
      unfold valX
      exact Nat.le_mul_of_pos_left _ (Nat.lt_of_lt_of_le (pow10 _) hge)
    have h2 := (Nat.pow_lt_pow_iff_right (show 1 < 10 by decide)).1 (Nat.lt_of_le_of_lt h1 hX)
    exact decide_eq_true (by omega)
theorem NumT.mk_strip {s : List UInt8} {d : Dm} {X : Nat} (h : wrongP s = none) (hl : s.length ≤ 140737488353000) (hs : bareP s = stripD d) (h1 : d.1 = false) (hlo : -(unitE : Int) ≤ d.2.2) (hv : valX d = X)
    (hN : ∀ k, k = 800 → ∃ N e, X = N * 10 ^ e ∧ N < 10 ^ k) (hX : X < 10 ^ bigE) : NumT s X := by
  obtain ⟨a, b, c⟩ := strip_val d hlo
  have hB := bareP_bare s
  rw [hs] at hB
  obtain ⟨k, hk⟩ : ∃ k, k = 800 := ⟨_, rfl⟩
  obtain ⟨N, e, h3, h4⟩ := hN k hk
  refine ⟨h, hl, ?_, ?_, ?_, ?_, ?_⟩
  · rw [hs]
    by_cases h0 : (stripD d).2.1 = []
    · rw [hB.2.1 h0]
    · rw [c h0, h1]
  · rw [hs]; exact b
  · rw [hs, a, hv]
  · rw [hs, ← hk]
    exact bare_len hB (by rw [a, hv, h3]) h4
  · rw [hs]
    exact val_near hB b (by rw [a, hv]; exact hX)
theorem big_ten {X : Nat} (h : X < 2 ^ bigE) : X < 10 ^ bigE := Nat.lt_of_lt_of_le h (Nat.pow_le_pow_left (by decide) _)
/-- Compare, Against, Bits of such texts. -/
theorem comp_num {a b : List UInt8} {X Y : Nat} (h : NumT a X) (k : NumT b Y) (w : World) :
    Calls Tryz.prog 44 #[sv a, sv b] w fun e w' => e = .returned (.tuple #[.int .i64 (cmpI X Y), .nilIface]) ∧ Below w.heap.size w w' := by
  have hc := comp_at a b w h.len k.len h.ok k.ok true (by rw [h.near, k.near]; rfl)
  rw [if_pos rfl, cmp_val (bareP_bare a) (bareP_bare b) h.pos k.pos h.lo k.lo h.short k.short, h.val, k.val] at hc
  exact hc
theorem ag_num {a : List UInt8} {X : Nat} (h : NumT a X) (n : Nat) (hn : n ≤ most) (w : World) :
    Calls Tryz.prog 36 #[sv a, .int .u64 (n : Int)] w fun e w' => e = .returned (.tuple #[.int .i64 (cmpI X (sz n)), .nilIface]) ∧ Below w.heap.size w w' := by
  have hm : n % 9223372036854775808 = n := Nat.mod_eq_of_lt (by unfold most at hn; omega)
  have hc := against_ok a n w h.len (by unfold most at hn; omega) (by unfold finB; rw [hm]; exact decide_eq_true hn) h.ok
  rw [again_val (bareP_bare a) h.lo h.short h.pos hn, h.val] at hc
  exact hc
theorem bits_num {a : List UInt8} {X b : Nat} (h : NumT a X) (hb : b ≤ most) (hi : insD b X = true) (w : World) :
    Calls Tryz.prog 42 #[sv a] w fun e w' => e = .returned (.tuple #[.int .u64 (b : Nat), .nilIface]) ∧ Below w.heap.size w w' := by
  have hc := bits_ok a w h.len h.ok
  rw [round_val (bareP_bare a) h.lo h.short hb (by rw [h.val]; exact hi), h.pos] at hc
  exact hc

theorem third_text : textV 4599676419421066581 = .tuple #[.string ⟨#[48, 46, 51, 51, 51, 51, 51, 51, 51, 51, 51, 51, 51, 51, 51, 51, 51, 51]⟩, .nilIface] := by
  unfold textV
  have e : 4599676419421066581 % 9223372036854775808 = 4599676419421066581 := rfl
  rw [e, third_short, if_neg (by decide), if_neg]
  · rfl
  · have : isWhole 4599676419421066581 = false := by decide +kernel
    rw [this]; decide
set_option maxRecDepth 100000 in
/-- A third is told with its sixteen digits. -/
theorem works_yes (w : World) (ht : Tab w) : Calls Tryz.prog 16 #[] w fun e w' => e = .returned (.bool true) ∧ Below w.heap.size w w' := by
  have HT := Lib.hid (text_any 4599676419421066581 w (by decide) ht)
  rw [third_text] at HT
  clear ht
  go_enter Tryz.func16, Tryz.ntmps16
  go_wp2_with fail
  refine HT.out.mono ?_
  rintro e w1 ⟨rfl, hb⟩
  go_wp2_with fail
  go_ret
  exact ⟨rfl, hb⟩
set_option maxRecDepth 100000 in
theorem finite_any (n : Nat) (w : World) (hn : n < 18446744073709551616) :
    Calls Tryz.prog 33 #[.int .u64 (n : Int)] w fun e w' => e = .returned (.bool (finB n)) ∧ w = w' := by
  obtain ⟨z, hz⟩ : ∃ z, n / 4503599627370496 = z := ⟨_, rfl⟩
  obtain ⟨q, hq⟩ : ∃ q, z % 2048 = q := ⟨_, rfl⟩
  have e1 : (n : Int) / 4503599627370496 = (z : Int) := by omega
  have e2 : bits .and .u64 (z : Int) 2047 = (q : Int) := by
    have h := and_low z 11 (by unfold W64; omega) (by decide)
    rw [show (2 : Nat) ^ 11 = 2048 from rfl, hq] at h
    exact h
  have ef : finB n = ((q : Int) != 2047) := by
    unfold finB most
    rw [Bool.eq_iff_iff]
    simp
    omega
  have HF := Lib.hid ef
  have hnI : (n : Int) ≤ 18446744073709551615 := by omega
  have hqI : (q : Int) ≤ 2047 := by omega
  generalize finB n = f at *
  clear ef hn hz hq
  go_enter Tryz.func33, Tryz.ntmps33
  go_wp2_with fail
  go_ret
  exact ⟨by rw [HF.out] <;> rfl, rfl⟩
set_option maxRecDepth 100000 in
theorem literal_d (d : List UInt8) (n : Int) (w : World) (hd : d.length ≤ 100000) (h1 : -100000 ≤ n) (h2 : n ≤ 100000) (ht : Tab w) :
    Calls Tryz.prog 41 #[.string ⟨d.toArray⟩, .int .i64 n] w fun e w' => e = .returned (.string ⟨(litL d n).toArray⟩) ∧ Below w.heap.size w w' := by
  have hI := itoa_d (n - (d.length : Int)) (by omega) (by omega) w ht
  have hil := itoa_len21 (n - (d.length : Int)) (by omega) (by omega)
  have k1 : IntKind.i64.wrap (n - (d.length : Int)) = n - (d.length : Int) := IntWalk.i64_in _ (by omega)
  have HI := Lib.hid hI
  have hv : litL d n = (d ++ [101]) ++ Lib.itoa (n - (d.length : Int)) := by unfold litL; rw [List.append_assoc]; rfl
  have HV := Lib.hid hv
  have hdI : (d.length : Int) ≤ 100000 := by omega
  generalize litL d n = v at *
  generalize Lib.itoa (n - (d.length : Int)) = I at *
  have hc1 := sv_cat d [101]
  have hc2 := sv_cat (d ++ [101]) I
  have hiI : (I.length : Int) ≤ 21 := by omega
  have hDI : (((d ++ [101] : List UInt8)).length : Int) ≤ 100001 := by simp; omega
  generalize hD : (d ++ [101] : List UInt8) = D at *
  clear hD hd hI hil hv ht
  go_enter Tryz.func41, Tryz.ntmps41
  go_wp2_with fail
  refine HI.out.mono ?_
  rintro e w1 ⟨rfl, hb⟩
  go_wp2_with fail
  go_ret
  exact ⟨by rw [HV.out] <;> rfl, hb⟩
set_option maxHeartbeats 4000000 in
set_option maxRecDepth 100000 in
/-- Does a literal lie within a reach? -/
theorem inside_lit {a f t : List UInt8} {X F T : Nat} (cl : Bool) (ha : NumT a X) (hf : NumT f F) (ht : NumT t T) (w : World) :
    Calls Tryz.prog 40 #[.string ⟨a.toArray⟩, .agg #[.string ⟨f.toArray⟩, .string ⟨t.toArray⟩, .bool cl]] w fun e w' => e = .returned (.bool (insC (cmpI X F) (cmpI X T) cl)) ∧ Below w.heap.size w w' := by
  have HC1 := Lib.hid (fun W => comp_num ha hf W)
  have HC2 := Lib.hid (fun W => comp_num ha ht W)
  have r1 := cmpI_range X F
  have r2 := cmpI_range X T
  generalize cmpI X F = u at *
  generalize cmpI X T = v at *
  have B0 := Lib.hid (Blk.new w 40 #[.string ⟨f.toArray⟩, .string ⟨t.toArray⟩, .bool cl])
  have BB := Lib.hid (below_new w (.cells #[.string ⟨f.toArray⟩, .string ⟨t.toArray⟩, .bool cl] 40))
  clear ha hf ht
  unfold sv at *
  go_enter Tryz.func40, Tryz.ntmps40
  go_wp2_with fail
  obtain ⟨W, hW⟩ : ∃ W, w.alloc (.cells #[.string ⟨f.toArray⟩, .string ⟨t.toArray⟩, .bool cl] 40) = W := ⟨_, rfl⟩
  rw [hW] at B0 BB ⊢
  clear hW
  have c0 := B0.out.cell 0
  have c1 := B0.out.cell 1
  have c2 := B0.out.cell 2
  go_wp2_with fail
  refine (HC1.out _).mono ?_
  rintro e w1 ⟨rfl, hb⟩
  clear c0 c1 c2
  have B1 := Lib.hid (B0.out.st hb)
  have BB1 := Lib.hid (keepb BB.out hb)
  clear hb
  have c0 := B1.out.cell 0
  have c1 := B1.out.cell 1
  have c2 := B1.out.cell 2
  go_wp2_with fail
  refine (HC2.out _).mono ?_
  rintro e w2 ⟨rfl, hb⟩
  clear c0 c1 c2
  have B2 := Lib.hid (B1.out.st hb)
  have BB2 := Lib.hid (keepb BB1.out hb)
  clear hb
  have c0 := B2.out.cell 0
  have c1 := B2.out.cell 1
  have c2 := B2.out.cell 2
  clear HC1 HC2
  rcases r1 with rfl | rfl | rfl
  all_goals
    rcases r2 with rfl | rfl | rfl
    all_goals
      cases cl
      all_goals
        go_wp2_with fail
        go_ret
        exact ⟨rfl, BB2.out⟩
end Go.Proofs.YtnajondbdeclmaaGreatDoor
