/- The walk of DigitsUnlike. -/
import Derived.Test.YtnajondbdeclmaaDoorDigY
import Derived.Test.YtnajondbdeclmaaDoorDigV
namespace Go.Proofs.YtnajondbdeclmaaDoor.digitsUnlike
open Go.RowKit
set_option linter.unusedSimpArgs false
set_option linter.unusedVariables false

theorem word_wf {a : Int} (h : (Lit.int .u64 a).wf = true) : ∃ n : Nat, a = (n : Int) ∧ n < 18446744073709551616 := by
  have hwf : 0 ≤ a ∧ a ≤ 18446744073709551615 := by simpa [Lit.wf, IntKind.min, IntKind.max, IntKind.signed, IntKind.bits] using h
  exact ⟨a.toNat, by omega, by omega⟩
theorem shl_same (n m : Nat) : (IntKind.u64.wrap ((n : Int) * 2) == IntKind.u64.wrap ((m : Int) * 2)) = decide (n % 9223372036854775808 = m % 9223372036854775808) := by
  have e : ∀ n : Nat, IntKind.u64.wrap ((n : Int) * 2) = ((n : Int) * 2) % 18446744073709551616 := fun n => rfl
  rw [e, e, Bool.eq_iff_iff]
  simp
  omega
set_option maxRecDepth 100000 in
set_option maxHeartbeats 4000000 in
theorem unlike_walk (n m : Nat) (d c : List UInt8) (x y : Int) (u v : Bool) (w : World)
    (HF1 : Hid (∀ W, Calls Tryd.prog 4 #[.int .u64 (n : Int)] W fun e w' => e = .returned (.bool u) ∧ W = w'))
    (HF2 : Hid (∀ W, Calls Tryd.prog 4 #[.int .u64 (m : Int)] W fun e w' => e = .returned (.bool v) ∧ W = w'))
    (HS1 : Hid (u = true → ∀ W, Calls Tryd.prog 6 #[.int .u64 (n : Int)] W fun e w' => e = .returned (.tuple #[.string ⟨d.toArray⟩, .int .i64 x, .nilIface]) ∧ Below W.heap.size W w'))
    (HS2 : Hid (v = true → ∀ W, Calls Tryd.prog 6 #[.int .u64 (m : Int)] W fun e w' => e = .returned (.tuple #[.string ⟨c.toArray⟩, .int .i64 y, .nilIface]) ∧ Below W.heap.size W w'))
    (HE : Hid (u = true → v = true → ((IntKind.u64.wrap ((n : Int) * 2) == IntKind.u64.wrap ((m : Int) * 2)) = true ∧ d = c ∧ x = y) ∨ ((IntKind.u64.wrap ((n : Int) * 2) == IntKind.u64.wrap ((m : Int) * 2)) = false ∧ (d = c → x ≠ y))))
    (HW : Hid (∀ W, Below w.heap.size w W → Calls Tryd.prog 5 #[] W fun e w' => e = .returned (.bool true) ∧ Below W.heap.size W w')) :
    Calls Tryd.prog 3 #[.int .u64 (n : Int), .int .u64 (m : Int)] w fun e w' => e = .returned (.bool true) ∧ Below w.heap.size w w' := by
  have BB := Lib.hid (Below.refl w.heap.size w)
  go_enter Tryd.func3, Tryd.ntmps3
  go_wp2_with fail
  refine (HF1.out _).mono ?_
  rintro e w0 ⟨rfl, rfl⟩
  cases u with
  | false =>
    go_wp2_with fail
    refine (HW.out _ BB.out).mono ?_
    rintro e w6 ⟨rfl, hb⟩
    go_wp2_with fail
    go_ret
    exact ⟨rfl, hb⟩
  | true =>
    go_wp2_with fail
    refine (HF2.out _).mono ?_
    rintro e w0 ⟨rfl, rfl⟩
    cases v with
    | false =>
      go_wp2_with fail
      refine (HW.out _ BB.out).mono ?_
      rintro e w6 ⟨rfl, hb⟩
      go_wp2_with fail
      go_ret
      exact ⟨rfl, hb⟩
    | true =>
      have HS1' := Lib.hid (HS1.out (by simp))
      have HS2' := Lib.hid (HS2.out (by simp))
      have HEE := Lib.hid (HE.out (by simp) (by simp))
      clear HS1 HS2 HE HF1 HF2
      go_wp2_with fail
      refine (HS1'.out _).mono ?_
      rintro e w1 ⟨rfl, hb⟩
      have BB := Lib.hid (keepb BB.out hb)
      clear hb
      go_wp2_with fail
      refine (HS2'.out _).mono ?_
      rintro e w2 ⟨rfl, hb⟩
      have BB := Lib.hid (keepb BB.out hb)
      clear hb
      rcases HEE.out with ⟨h1, h2, h3⟩ | ⟨h1, h2⟩
      · subst h2 h3
        have h4 : (x == x) = true := by simp
        go_wp2_with fail
        refine (HW.out _ BB.out).mono ?_
        rintro e w6 ⟨rfl, hb⟩
        have BB := Lib.hid (keepb BB.out hb)
        clear hb
        go_wp2_with fail
        go_ret
        exact ⟨rfl, BB.out⟩
      · by_cases hdc : d = c
        · have hxy := h2 hdc
          subst hdc
          have h4 : (x == y) = false := by rw [beq_eq_false_iff_ne]; exact hxy
          clear h2 hxy
          go_wp2_with fail
          refine (HW.out _ BB.out).mono ?_
          rintro e w6 ⟨rfl, hb⟩
          have BB := Lib.hid (keepb BB.out hb)
          clear hb
          go_wp2_with fail
          go_ret
          exact ⟨rfl, BB.out⟩
        · have n1 : (d == c) = false := by rw [beq_eq_false_iff_ne]; exact hdc
          clear h2
          go_wp2_with fail
          refine (HW.out _ BB.out).mono ?_
          rintro e w6 ⟨rfl, hb⟩
          have BB := Lib.hid (keepb BB.out hb)
          clear hb
          go_wp2_with fail
          go_ret
          exact ⟨rfl, BB.out⟩
theorem walk (a0 : Int) (a1 : Int) (w : World) (w0 : (Lit.int .u64 a0).wf = true) (w1 : (Lit.int .u64 a1).wf = true) (ht : Tab w) :
    Calls Tryd.prog 3 #[.int .u64 a0, .int .u64 a1] w fun e w' => e = .returned (.bool true) ∧ Below w.heap.size w w' := by
  obtain ⟨n, rfl, hn⟩ := word_wf w0
  obtain ⟨m, rfl, hm⟩ := word_wf w1
  have hW := Lib.hid (fun W (h : Below w.heap.size w W) => works_yes W (ht.below h))
  have hs := shl_same n m
  have key : ∀ n : Nat, n < 18446744073709551616 → finB n = true → ∀ W, Calls Tryd.prog 6 #[.int .u64 (n : Int)] W fun e w' => e = .returned (.tuple #[.string ⟨(shortR (n % 9223372036854775808)).1.toArray⟩, .int .i64 (shortR (n % 9223372036854775808)).2, .nilIface]) ∧ Below W.heap.size W w' := by
    intro n hn hf W
    have h1 : n % 9223372036854775808 ≤ most := of_decide_eq_true hf
    have := dshort_any n W hn
    unfold shortV at this
    rw [if_neg (by omega)] at this
    exact this
  refine unlike_walk n m (shortR (n % 9223372036854775808)).1 (shortR (m % 9223372036854775808)).1 (shortR (n % 9223372036854775808)).2 (shortR (m % 9223372036854775808)).2 (finB n) (finB m) w (Lib.hid (fun W => finite_any n W hn)) (Lib.hid (fun W => finite_any m W hm)) (Lib.hid (key n hn)) (Lib.hid (key m hm)) (Lib.hid (fun h1 h2 => ?_)) hW
  by_cases he : n % 9223372036854775808 = m % 9223372036854775808
  · left
    rw [hs, he]
    exact ⟨by simp, rfl, rfl⟩
  · right
    rw [hs]
    refine ⟨decide_eq_false he, fun h3 h4 => ?_⟩
    exact he ((short_unlike _ _).1 (Prod.ext h3 h4))
end Go.Proofs.YtnajondbdeclmaaDoor.digitsUnlike
