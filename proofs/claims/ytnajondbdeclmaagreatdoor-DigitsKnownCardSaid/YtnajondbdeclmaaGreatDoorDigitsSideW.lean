/- The walk of DigitsSide. -/
import Derived.Test.YtnajondbdeclmaaGreatDoorDigY
import Derived.Test.YtnajondbdeclmaaGreatDoorDigK
namespace Go.Proofs.YtnajondbdeclmaaGreatDoor
open Go.RowKit
set_option linter.unusedSimpArgs false
set_option linter.unusedVariables false

theorem ten4 : 10000 ≤ 140737488353000 := by omega
theorem word_wf {a : Int} (h : (Lit.int .u64 a).wf = true) : ∃ n : Nat, a = (n : Int) ∧ n < 18446744073709551616 := by
  have hwf : 0 ≤ a ∧ a ≤ 18446744073709551615 := by simpa [Lit.wf, IntKind.min, IntKind.max, IntKind.signed, IntKind.bits] using h
  exact ⟨a.toNat, by omega, by omega⟩
theorem form_small {x : Nat} (hx : x < 2 ^ bigE) : (formN x).length ≤ 140737488353000 := by
  have h := form_size hx
  clear hx
  generalize (formN x).length = l at *
  omega
theorem form_num {x : Nat} (hx : x < 2 ^ bigE) (h8 : ∀ k, k = 800 → ∃ N e, x = N * 10 ^ e ∧ N < 10 ^ k) : NumT (formN x) x := by
  obtain ⟨p1, d, p2, p3, p4, p5⟩ := form_parse false x
  have e : gS false ++ formN x = formN x := by simp [gS]
  rw [e] at p1 p2
  have hb := big_ten hx
  have hf := form_small hx
  clear hx
  exact NumT.mk_strip (d := d) (X := x) p1 hf p2 p4 p5 p3 h8 hb
theorem to_num {b : Nat} (hb : b ≤ most) : NumT (formN (toN b)) (toN b) := form_num (toN_lt hb) (fun k hk => (sz_800 hb k hk).2.1)
theorem from_num {b : Nat} (hb : b ≤ most) : NumT (formN (fromN b)) (fromN b) := form_num (Nat.lt_of_le_of_lt (fromN_le b) (toN_lt hb)) (fun k hk => (sz_800 hb k hk).2.2)
theorem sz_num {b : Nat} (hb : b ≤ most) : NumT (formN (sz b)) (sz b) := form_num (sz_lt hb) (fun k hk => (sz_800 hb k hk).1)
theorem around_at (b : Nat) (w : World) (hb : b ≤ most) : Calls Tryz.prog 22 #[.int .u64 b] w fun e w' => e = .returned (.tuple #[.agg #[.string ⟨(formN (fromN b)).toArray⟩, .string ⟨(formN (toN b)).toArray⟩, .bool (b % 2 == 0)], .nilIface]) ∧ Below w.heap.size w w' := by
  have hb2 : b % 9223372036854775808 = b := Nat.mod_eq_of_lt (by unfold most at hb; omega)
  exact around_fin b b w (by unfold most at hb; omega) hb2 hb
theorem finB_yes {b : Nat} (h : b ≤ most) : finB b = true := by
  unfold finB
  rw [Nat.mod_eq_of_lt (by unfold most at h; omega)]
  exact decide_eq_true h
end Go.Proofs.YtnajondbdeclmaaGreatDoor
namespace Go.Proofs.YtnajondbdeclmaaGreatDoor.digitsSide
open Go.RowKit
set_option linter.unusedSimpArgs false
set_option linter.unusedVariables false

set_option maxRecDepth 100000 in
set_option maxHeartbeats 4000000 in
theorem side_walk (n b m : Nat) (p : Bool) (f1 f2 f3 : List UInt8) (w : World)
    (hand : bits .andNot .u64 (n : Int) 9223372036854775808 = (b : Int)) (kb : IntKind.u64.wrap ((b : Int) + 1) = (m : Int))
    (HFa : Hid (∀ W, Calls Tryz.prog 33 #[.int .u64 (b : Int)] W fun e w' => e = .returned (.bool true) ∧ W = w'))
    (HFb : Hid (∀ W, Calls Tryz.prog 33 #[.int .u64 (m : Int)] W fun e w' => e = .returned (.bool true) ∧ W = w'))
    (HA : Hid (∀ W, Calls Tryz.prog 22 #[.int .u64 (b : Int)] W fun e w' => e = .returned (.tuple #[.agg #[.string ⟨f1.toArray⟩, .string ⟨f2.toArray⟩, .bool p], .nilIface]) ∧ Below W.heap.size W w'))
    (HB : Hid (∀ W, Calls Tryz.prog 22 #[.int .u64 (m : Int)] W fun e w' => e = .returned (.tuple #[.agg #[.string ⟨f2.toArray⟩, .string ⟨f3.toArray⟩, .bool (!p)], .nilIface]) ∧ Below W.heap.size W w'))
    (HC : Hid (∀ W, Calls Tryz.prog 44 #[.string ⟨f1.toArray⟩, .string ⟨f2.toArray⟩] W fun e w' => e = .returned (.tuple #[.int .i64 (-1), .nilIface]) ∧ Below W.heap.size W w'))
    (HG : Hid (∀ W, Calls Tryz.prog 36 #[.string ⟨f2.toArray⟩, .int .u64 (b : Int)] W fun e w' => e = .returned (.tuple #[.int .i64 1, .nilIface]) ∧ Below W.heap.size W w'))
    (HH : Hid (∀ W, Calls Tryz.prog 36 #[.string ⟨f2.toArray⟩, .int .u64 (m : Int)] W fun e w' => e = .returned (.tuple #[.int .i64 (-1), .nilIface]) ∧ Below W.heap.size W w'))
    (HW : Hid (∀ W, Below w.heap.size w W → Calls Tryz.prog 16 #[] W fun e w' => e = .returned (.bool true) ∧ Below W.heap.size W w')) :
    Calls Tryz.prog 11 #[.int .u64 (n : Int)] w fun e w' => e = .returned (.bool true) ∧ Below w.heap.size w w' := by
  go_enter Tryz.func11, Tryz.ntmps11
  go_wp2_with fail
  refine (HFa.out _).mono ?_
  rintro e w1 ⟨rfl, rfl⟩
  go_wp2_with fail
  refine (HFb.out _).mono ?_
  rintro e w1 ⟨rfl, rfl⟩
  have BB := Lib.hid (Below.refl w.heap.size w)
  go_wp2_with fail
  refine (HA.out _).mono ?_
  rintro e w1 ⟨rfl, hb⟩
  have hbk := keepb BB.out hb
  have BB := Lib.hid (hbk.alloc hbk.size (.cells #[.string ⟨f1.toArray⟩, .string ⟨f2.toArray⟩, .bool p] 40))
  have B0 := Lib.hid (Blk.new w1 40 #[.string ⟨f1.toArray⟩, .string ⟨f2.toArray⟩, .bool p])
  clear hb hbk
  have c0_0 := B0.out.cell 0
  have c0_1 := B0.out.cell 1
  have c0_2 := B0.out.cell 2
  go_wp2_with fail
  refine (HB.out _).mono ?_
  rintro e w2 ⟨rfl, hb⟩
  clear c0_0 c0_1 c0_2
  have B0 := Lib.hid ((B0.out.st hb).alloc (.cells #[.string ⟨f2.toArray⟩, .string ⟨f3.toArray⟩, .bool (!p)] 40))
  have hbk := keepb BB.out hb
  have BB := Lib.hid (hbk.alloc hbk.size (.cells #[.string ⟨f2.toArray⟩, .string ⟨f3.toArray⟩, .bool (!p)] 40))
  have B1 := Lib.hid (Blk.new w2 40 #[.string ⟨f2.toArray⟩, .string ⟨f3.toArray⟩, .bool (!p)])
  clear hb hbk
  have c0_0 := B0.out.cell 0
  have c0_1 := B0.out.cell 1
  have c0_2 := B0.out.cell 2
  have c1_0 := B1.out.cell 0
  have c1_1 := B1.out.cell 1
  have c1_2 := B1.out.cell 2
  go_wp2_with fail
  refine (HC.out _).mono ?_
  rintro e w3 ⟨rfl, hb⟩
  clear c0_0 c0_1 c0_2 c1_0 c1_1 c1_2
  have B0 := Lib.hid (B0.out.st hb)
  have B1 := Lib.hid (B1.out.st hb)
  have hbk := keepb BB.out hb
  have BB := Lib.hid hbk
  clear hb hbk
  have c0_0 := B0.out.cell 0
  have c0_1 := B0.out.cell 1
  have c0_2 := B0.out.cell 2
  have c1_0 := B1.out.cell 0
  have c1_1 := B1.out.cell 1
  have c1_2 := B1.out.cell 2
  go_wp2_with fail
  refine (HG.out _).mono ?_
  rintro e w4 ⟨rfl, hb⟩
  clear c0_0 c0_1 c0_2 c1_0 c1_1 c1_2
  have B0 := Lib.hid (B0.out.st hb)
  have B1 := Lib.hid (B1.out.st hb)
  have hbk := keepb BB.out hb
  have BB := Lib.hid hbk
  clear hb hbk
  have c0_0 := B0.out.cell 0
  have c0_1 := B0.out.cell 1
  have c0_2 := B0.out.cell 2
  have c1_0 := B1.out.cell 0
  have c1_1 := B1.out.cell 1
  have c1_2 := B1.out.cell 2
  go_wp2_with fail
  refine (HH.out _).mono ?_
  rintro e w5 ⟨rfl, hb⟩
  clear c0_0 c0_1 c0_2 c1_0 c1_1 c1_2
  have B0 := Lib.hid (B0.out.st hb)
  have B1 := Lib.hid (B1.out.st hb)
  have hbk := keepb BB.out hb
  have BB := Lib.hid hbk
  clear hb hbk
  have c0_0 := B0.out.cell 0
  have c0_1 := B0.out.cell 1
  have c0_2 := B0.out.cell 2
  have c1_0 := B1.out.cell 0
  have c1_1 := B1.out.cell 1
  have c1_2 := B1.out.cell 2
  have HBZ : Hid (Below w.heap.size w w5) := Lib.hid BB.out
  cases p
  all_goals
    go_wp2_with fail
    refine (HW.out _ HBZ.out).mono ?_
    rintro e w6 ⟨rfl, hb⟩
    have HB6 := Lib.hid (keepb HBZ.out hb)
    clear hb c0_0 c0_1 c0_2 c1_0 c1_1 c1_2
    go_wp2_with fail
    go_ret
    exact ⟨rfl, HB6.out⟩
set_option maxRecDepth 100000 in
theorem side_no (n b m : Nat) (u : Bool) (w : World)
    (hand : bits .andNot .u64 (n : Int) 9223372036854775808 = (b : Int)) (kb : IntKind.u64.wrap ((b : Int) + 1) = (m : Int))
    (HFa : Hid (∀ W, Calls Tryz.prog 33 #[.int .u64 (b : Int)] W fun e w' => e = .returned (.bool u) ∧ W = w'))
    (HFb : Hid (u = true → ∀ W, Calls Tryz.prog 33 #[.int .u64 (m : Int)] W fun e w' => e = .returned (.bool false) ∧ W = w'))
    (HW : Hid (∀ W, Below w.heap.size w W → Calls Tryz.prog 16 #[] W fun e w' => e = .returned (.bool true) ∧ Below W.heap.size W w')) :
    Calls Tryz.prog 11 #[.int .u64 (n : Int)] w fun e w' => e = .returned (.bool true) ∧ Below w.heap.size w w' := by
  go_enter Tryz.func11, Tryz.ntmps11
  go_wp2_with fail
  refine (HFa.out _).mono ?_
  rintro e w1 ⟨rfl, rfl⟩
  cases u with
  | false =>
    go_wp2_with fail
    refine (HW.out _ (Below.refl _ _)).mono ?_
    rintro e w6 ⟨rfl, hb⟩
    go_wp2_with fail
    go_ret
    exact ⟨rfl, hb⟩
  | true =>
    go_wp2_with fail
    refine (HFb.out (by simp) _).mono ?_
    rintro e w1 ⟨rfl, rfl⟩
    go_wp2_with fail
    refine (HW.out _ (Below.refl _ _)).mono ?_
    rintro e w6 ⟨rfl, hb⟩
    go_wp2_with fail
    go_ret
    exact ⟨rfl, hb⟩
theorem wrap_succ {b : Nat} (h : b < 18446744073709551615) : IntKind.u64.wrap ((b : Int) + 1) = ((b + 1 : Nat) : Int) := by
  have e : (b : Int) + 1 = ((b + 1 : Nat) : Int) := by omega
  rw [e]
  exact wrapN _ (by unfold W64; omega)
theorem walk (a0 : Int) (w : World) (w0 : (Lit.int .u64 a0).wf = true) (ht : Tab w) :
    Calls Tryz.prog 11 #[.int .u64 a0] w fun e w' => e = .returned (.bool true) ∧ Below w.heap.size w w' := by
  obtain ⟨n, rfl, hn⟩ := word_wf w0
  have hand := andnot_top n hn
  obtain ⟨b, hb⟩ : ∃ b, n % 9223372036854775808 = b := ⟨_, rfl⟩
  rw [hb] at hand
  have hb63 : b < 9223372036854775808 := by omega
  have hW := Lib.hid (fun W (h : Below w.heap.size w W) => works_yes W (ht.below h))
  by_cases h1 : b ≤ most
  · by_cases h2 : b + 1 ≤ most
    · have e := to_next b
      have l1 := from_lt_to b
      have l2 : sz b < toN b := by
        rcases Nat.eq_zero_or_pos b with h0 | h0
        · subst h0
          have h2 : sz 0 = 0 := by unfold sz; rw [Fl_zero, Nat.mul_zero, Nat.zero_mul]
          omega
        · exact (sz_in h0).2
      have l3 : toN b < sz (b + 1) := by rw [e]; exact (sz_in (by omega)).1
      refine side_walk n b (b + 1) (b % 2 == 0) (formN (fromN b)) (formN (toN b)) (formN (toN (b + 1))) w hand (wrap_succ (by omega)) ?_ ?_ ?_ ?_ ?_ ?_ ?_ hW
      · exact Lib.hid (fun W => by have := finite_any b W (by omega); rwa [finB_yes h1] at this)
      · exact Lib.hid (fun W => by have := finite_any (b + 1) W (by omega); rwa [finB_yes h2] at this)
      · exact Lib.hid (fun W => around_at b W h1)
      · refine Lib.hid (fun W => ?_)
        have := around_at (b + 1) W h2
        rw [← e, show ((b + 1) % 2 == 0) = !(b % 2 == 0) from by rcases Nat.mod_two_eq_zero_or_one b with h | h <;> simp [h, Nat.add_mod]] at this
        exact this
      · exact Lib.hid (fun W => by have := comp_num (from_num h1) (to_num h1) W; rwa [cmpI_lt l1] at this)
      · exact Lib.hid (fun W => by have := ag_num (to_num h1) b h1 W; rwa [cmpI_gt l2] at this)
      · exact Lib.hid (fun W => by have := ag_num (to_num h1) (b + 1) h2 W; rwa [cmpI_lt l3] at this)
    · refine side_no n b (b + 1) true w hand (wrap_succ (by omega)) ?_ ?_ hW
      · exact Lib.hid (fun W => by have := finite_any b W (by omega); rwa [finB_yes h1] at this)
      · refine Lib.hid (fun _ W => ?_)
        have := finite_any (b + 1) W (by omega)
        have hf : finB (b + 1) = false := by unfold finB; exact decide_eq_false (by unfold most at *; omega)
        rwa [hf] at this
  · refine side_no n b (b + 1) false w hand (wrap_succ (by omega)) ?_ (Lib.hid (fun h => by cases h)) hW
    refine Lib.hid (fun W => ?_)
    have := finite_any b W (by omega)
    have hf : finB b = false := by unfold finB; exact decide_eq_false (by rw [Nat.mod_eq_of_lt hb63]; exact h1)
    rwa [hf] at this
end Go.Proofs.YtnajondbdeclmaaGreatDoor.digitsSide
