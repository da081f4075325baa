/- The walk of DigitsKnown. -/
import Derived.Test.YtnajondbdeclmaaGreatDoorDigitsKnownP
import Derived.Test.YtnajondbdeclmaaGreatDoorDigitsSideW
namespace Go.Proofs.YtnajondbdeclmaaGreatDoor.digitsKnown
open Go.RowKit
set_option linter.unusedSimpArgs false
set_option linter.unusedVariables false

set_option maxRecDepth 100000 in
theorem row_true (n b : Nat) (l : List UInt8) (x : Int) (w : World) (hn : n < 18446744073709551616) (hb : n % 9223372036854775808 = b) (hf : b ≤ most) (hs : shortR b = (l, x)) :
    Calls Tryz.prog 27 #[.float .f64 n, .string ⟨l.toArray⟩, .int .i64 x] w fun e w' => e = .returned (.bool true) ∧ Below w.heap.size w w' := by
  have hS := fun W => dshort_any n W hn
  unfold shortV at hS
  rw [if_neg (by omega), hb, hs] at hS
  have HS := Lib.hid hS
  have cb := call_bits n
  clear hS hs hf hb hn
  go_enter Tryz.func27, Tryz.ntmps27
  go_wp2_with fail
  refine (HS.out _).mono ?_
  rintro e w1 ⟨rfl, hb⟩
  go_wp2_with fail
  go_ret
  exact ⟨rfl, hb⟩
set_option maxRecDepth 100000 in
theorem text_true (n b : Nat) (l : List UInt8) (w : World) (hn : n < 18446744073709551616) (hb : n % 9223372036854775808 = b) (hf : b ≤ most) (hs : textS n = l) (ht : Tab w) :
    Calls Tryz.prog 28 #[.float .f64 n, .string ⟨l.toArray⟩] w fun e w' => e = .returned (.bool true) ∧ Below w.heap.size w w' := by
  have hS := text_any n w hn ht
  rw [textV_fin (by omega), hs] at hS
  have HS := Lib.hid hS
  clear hS hs hf hb hn ht
  go_enter Tryz.func28, Tryz.ntmps28
  go_wp2_with fail
  refine HS.out.mono ?_
  rintro e w1 ⟨rfl, hb⟩
  go_wp2_with fail
  go_ret
  exact ⟨rfl, hb⟩
set_option maxRecDepth 100000 in
theorem rounded_true (n k : Nat) (l : List UInt8) (x : Int) (w : World) (hn : n ≤ most) (h0 : n ≠ 0) (h1 : 1 ≤ k) (h2 : k ≤ 800) (hr : rowN (roundN (sz n) k) = (l, x)) :
    Calls Tryz.prog 30 #[.float .f64 n, .int .i64 k, .string ⟨l.toArray⟩, .int .i64 x] w fun e w' => e = .returned (.bool true) ∧ Below w.heap.size w w' := by
  have hS := fun W => rounded_fin n n k W (by unfold most at hn; omega) (Nat.mod_eq_of_lt (by unfold most at hn; omega)) hn h0 h1 h2
  rw [hr] at hS
  have HS := Lib.hid hS
  have cb := call_bits n
  clear hS hr hn h0 h1 h2
  go_enter Tryz.func30, Tryz.ntmps30
  go_wp2_with fail
  refine (HS.out _).mono ?_
  rintro e w1 ⟨rfl, hb⟩
  go_wp2_with fail
  go_ret
  exact ⟨rfl, hb⟩
set_option maxRecDepth 100000 in
theorem copysign_neg (w : World) : Calls Tryz.prog 26 #[.float .f64 0, .float .f64 13830554455654793216] w fun e w' => e = .returned (.float .f64 9223372036854775808) ∧ w = w' := by
  have c1 : ∀ W, (callFunc 29 #[.float .f64 0]).run Tryz.prog W = .ok (.value (.int .u64 0)) W := call_bits 0
  have c2 : ∀ W, (callFunc 29 #[.float .f64 13830554455654793216]).run Tryz.prog W = .ok (.value (.int .u64 13830554455654793216)) W := call_bits 13830554455654793216
  have c3 : ∀ W, (callFunc 18 #[.int .u64 9223372036854775808]).run Tryz.prog W = .ok (.value (.float .f64 9223372036854775808)) W := call_from 9223372036854775808
  have b1 : bits .andNot .u64 0 9223372036854775808 = 0 := by decide
  have b2 : bits .and .u64 13830554455654793216 9223372036854775808 = 9223372036854775808 := by decide
  have b3 : bits .or .u64 0 9223372036854775808 = 9223372036854775808 := by decide
  go_enter Tryz.func26, Tryz.ntmps26
  go_wp2_with fail
  go_ret
  exact ⟨rfl, rfl⟩
set_option maxRecDepth 100000 in
theorem inf_neg (w : World) : Calls Tryz.prog 31 #[.int .i64 (-1)] w fun e w' => e = .returned (.float .f64 18442240474082181120) ∧ w = w' := by
  have c3 : ∀ W, (callFunc 18 #[.int .u64 18442240474082181120]).run Tryz.prog W = .ok (.value (.float .f64 18442240474082181120)) W := call_from 18442240474082181120
  go_enter Tryz.func31, Tryz.ntmps31
  go_wp2_with fail
  go_ret
  exact ⟨rfl, rfl⟩
set_option maxRecDepth 100000 in
theorem inf_pos (w : World) : Calls Tryz.prog 31 #[.int .i64 1] w fun e w' => e = .returned (.float .f64 9218868437227405312) ∧ w = w' := by
  have c3 : ∀ W, (callFunc 18 #[.int .u64 9218868437227405312]).run Tryz.prog W = .ok (.value (.float .f64 9218868437227405312)) W := call_from 9218868437227405312
  go_enter Tryz.func31, Tryz.ntmps31
  go_wp2_with fail
  go_ret
  exact ⟨rfl, rfl⟩
set_option maxRecDepth 100000 in
theorem nan_at (w : World) : Calls Tryz.prog 32 #[] w fun e w' => e = .returned (.float .f64 9221120237041090561) ∧ w = w' := by
  have c3 : ∀ W, (callFunc 18 #[.int .u64 9221120237041090561]).run Tryz.prog W = .ok (.value (.float .f64 9221120237041090561)) W := call_from 9221120237041090561
  go_enter Tryz.func32, Tryz.ntmps32
  go_wp2_with fail
  go_ret
  exact ⟨rfl, rfl⟩
theorem most_lit : most = 9218868437227405311 := rfl
theorem zero_short : shortR 0 = ([48], 1) := by unfold shortR; rw [if_pos rfl]
set_option maxRecDepth 100000 in
set_option maxHeartbeats 8000000 in
theorem known_walk (w : World) (tl : List UInt8) (htl : tl.length = 1077)
    (HW : Hid (∀ W, Below w.heap.size w W → Calls Tryz.prog 16 #[] W fun e w' => e = .returned (.bool true) ∧ Below W.heap.size W w'))
    (R0 : Hid (∀ W, Calls Tryz.prog 27 #[.float .f64 4607182418800017408, .string ⟨#[49]⟩, .int .i64 1] W fun e w' => e = .returned (.bool true) ∧ Below W.heap.size W w'))
    (R1 : Hid (∀ W, Calls Tryz.prog 27 #[.float .f64 4591870180066957722, .string ⟨#[49]⟩, .int .i64 0] W fun e w' => e = .returned (.bool true) ∧ Below W.heap.size W w'))
    (R2 : Hid (∀ W, Calls Tryz.prog 27 #[.float .f64 4636737291354636288, .string ⟨#[49]⟩, .int .i64 3] W fun e w' => e = .returned (.bool true) ∧ Below W.heap.size W w'))
    (R3 : Hid (∀ W, Calls Tryz.prog 27 #[.float .f64 4638387860618067575, .string ⟨#[49, 50, 51, 52, 53, 54]⟩, .int .i64 3] W fun e w' => e = .returned (.bool true) ∧ Below W.heap.size W w'))
    (R4 : Hid (∀ W, Calls Tryz.prog 27 #[.float .f64 1, .string ⟨#[53]⟩, .int .i64 (-323)] W fun e w' => e = .returned (.bool true) ∧ Below W.heap.size W w'))
    (R5 : Hid (∀ W, Calls Tryz.prog 27 #[.float .f64 0, .string ⟨#[48]⟩, .int .i64 1] W fun e w' => e = .returned (.bool true) ∧ Below W.heap.size W w'))
    (R6 : Hid (∀ W, Calls Tryz.prog 27 #[.float .f64 9223372036854775808, .string ⟨#[48]⟩, .int .i64 1] W fun e w' => e = .returned (.bool true) ∧ Below W.heap.size W w'))
    (R7 : Hid (∀ W, Calls Tryz.prog 27 #[.float .f64 4845873199050653696, .string ⟨#[57, 48, 48, 55, 49, 57, 57, 50, 53, 52, 55, 52, 48, 57, 57, 50]⟩, .int .i64 16] W fun e w' => e = .returned (.bool true) ∧ Below W.heap.size W w'))
    (R8 : Hid (∀ W, Calls Tryz.prog 27 #[.float .f64 4832362400168542209, .string ⟨#[49, 49, 50, 53, 56, 57, 57, 57, 48, 54, 56, 52, 50, 54, 50, 52, 50]⟩, .int .i64 16] W fun e w' => e = .returned (.bool true) ∧ Below W.heap.size W w'))
    (X0 : Hid (∀ W, Below w.heap.size w W → Calls Tryz.prog 28 #[.float .f64 4921056587992461136, .string ⟨#[49, 101, 43, 50, 49]⟩] W fun e w' => e = .returned (.bool true) ∧ Below W.heap.size W w'))
    (X1 : Hid (∀ W, Below w.heap.size w W → Calls Tryz.prog 28 #[.float .f64 4906019910204099648, .string ⟨#[49, 48, 48, 48, 48, 48, 48, 48, 48, 48, 48, 48, 48, 48, 48, 48, 48, 48, 48, 48, 48]⟩] W fun e w' => e = .returned (.bool true) ∧ Below W.heap.size W w'))
    (X2 : Hid (∀ W, Below w.heap.size w W → Calls Tryz.prog 28 #[.float .f64 4517329193108106637, .string ⟨#[48, 46, 48, 48, 48, 48, 48, 49]⟩] W fun e w' => e = .returned (.bool true) ∧ Below W.heap.size W w'))
    (X3 : Hid (∀ W, Below w.heap.size w W → Calls Tryz.prog 28 #[.float .f64 4502148214488346440, .string ⟨#[49, 101, 45, 55]⟩] W fun e w' => e = .returned (.bool true) ∧ Below W.heap.size W w'))
    (X4 : Hid (∀ W, Below w.heap.size w W → Calls Tryz.prog 28 #[.float .f64 9223372036854775808, .string ⟨#[48]⟩] W fun e w' => e = .returned (.bool true) ∧ Below W.heap.size W w'))
    (X5 : Hid (∀ W, Below w.heap.size w W → Calls Tryz.prog 28 #[.float .f64 4518434226865098134, .string ⟨#[48, 46, 48, 48, 48, 48, 48, 49, 50, 51, 52]⟩] W fun e w' => e = .returned (.bool true) ∧ Below W.heap.size W w'))
    (X6 : Hid (∀ W, Below w.heap.size w W → Calls Tryz.prog 28 #[.float .f64 9097811302482466869, .string ⟨#[49, 46, 53, 101, 43, 51, 48, 48]⟩] W fun e w' => e = .returned (.bool true) ∧ Below W.heap.size W w'))
    (X7 : Hid (∀ W, Below w.heap.size w W → Calls Tryz.prog 28 #[.float .f64 4734372014072354133, .string ⟨#[51, 51, 51, 51, 51, 51, 51, 51, 51, 46, 51, 51, 51, 51, 51, 51, 51]⟩] W fun e w' => e = .returned (.bool true) ∧ Below W.heap.size W w'))
    (X8 : Hid (∀ W, Below w.heap.size w W → Calls Tryz.prog 28 #[.float .f64 9218868437227405311, .string ⟨#[49, 46, 55, 57, 55, 54, 57, 51, 49, 51, 52, 56, 54, 50, 51, 49, 53, 55, 101, 43, 51, 48, 56]⟩] W fun e w' => e = .returned (.bool true) ∧ Below W.heap.size W w'))
    (X9 : Hid (∀ W, Below w.heap.size w W → Calls Tryz.prog 28 #[.float .f64 13836183955189006336, .string ⟨#[45, 50, 46, 53]⟩] W fun e w' => e = .returned (.bool true) ∧ Below W.heap.size W w'))
    (E0 : Hid (∀ W, Calls Tryz.prog 20 #[.int .u64 4591870180066957722] W fun e w' => e = .returned (.tuple #[.string ⟨#[48, 46, 49, 48, 48, 48, 48, 48, 48, 48, 48, 48, 48, 48, 48, 48, 48, 48, 48, 53, 53, 53, 49, 49, 49, 53, 49, 50, 51, 49, 50, 53, 55, 56, 50, 55, 48, 50, 49, 49, 56, 49, 53, 56, 51, 52, 48, 52, 53, 52, 49, 48, 49, 53, 54, 50, 53]⟩, .nilIface]) ∧ Below W.heap.size W w'))
    (E1 : Hid (∀ W, Calls Tryz.prog 20 #[.int .u64 13835621005235585024] W fun e w' => e = .returned (.tuple #[.string ⟨#[45, 50, 46, 50, 53]⟩, .nilIface]) ∧ Below W.heap.size W w'))
    (E2 : Hid (∀ W, Calls Tryz.prog 20 #[.int .u64 9223372036854775808] W fun e w' => e = .returned (.tuple #[.string ⟨#[48]⟩, .nilIface]) ∧ Below W.heap.size W w'))
    (A0 : Hid (∀ W, Calls Tryz.prog 22 #[.int .u64 4607182418800017408] W fun e w' => e = .returned (.tuple #[.agg #[.string ⟨#[48, 46, 57, 57, 57, 57, 57, 57, 57, 57, 57, 57, 57, 57, 57, 57, 57, 57, 52, 52, 52, 56, 56, 56, 52, 56, 55, 54, 56, 55, 52, 50, 49, 55, 50, 57, 55, 56, 56, 49, 56, 52, 49, 54, 53, 57, 53, 52, 53, 56, 57, 56, 52, 51, 55, 53]⟩, .string ⟨#[49, 46, 48, 48, 48, 48, 48, 48, 48, 48, 48, 48, 48, 48, 48, 48, 48, 49, 49, 49, 48, 50, 50, 51, 48, 50, 52, 54, 50, 53, 49, 53, 54, 53, 52, 48, 52, 50, 51, 54, 51, 49, 54, 54, 56, 48, 57, 48, 56, 50, 48, 51, 49, 50, 53]⟩, .bool true], .nilIface]) ∧ Below W.heap.size W w'))
    (A1 : Hid (∀ W, Calls Tryz.prog 22 #[.int .u64 4845873199050653697] W fun e w' => e = .returned (.tuple #[.agg #[.string ⟨#[57, 48, 48, 55, 49, 57, 57, 50, 53, 52, 55, 52, 48, 57, 57, 51]⟩, .string ⟨#[57, 48, 48, 55, 49, 57, 57, 50, 53, 52, 55, 52, 48, 57, 57, 53]⟩, .bool false], .nilIface]) ∧ Below W.heap.size W w'))
    (A2 : Hid (∀ W, Calls Tryz.prog 22 #[.int .u64 0] W fun e w' => e = .returned (.tuple #[.agg #[.string ⟨#[48]⟩, .string ⟨tl.toArray⟩, .bool true], .nilIface]) ∧ Below W.heap.size W w'))
    (D0 : Hid (∀ W, Calls Tryz.prog 30 #[.float .f64 4612811918334230528, .int .i64 1, .string ⟨#[50]⟩, .int .i64 1] W fun e w' => e = .returned (.bool true) ∧ Below W.heap.size W w'))
    (D1 : Hid (∀ W, Calls Tryz.prog 30 #[.float .f64 4615063718147915776, .int .i64 1, .string ⟨#[52]⟩, .int .i64 1] W fun e w' => e = .returned (.bool true) ∧ Below W.heap.size W w'))
    (D2 : Hid (∀ W, Calls Tryz.prog 30 #[.float .f64 4621796599590834668, .int .i64 2, .string ⟨#[49]⟩, .int .i64 2] W fun e w' => e = .returned (.bool true) ∧ Below W.heap.size W w'))
    (D3 : Hid (∀ W, Calls Tryz.prog 30 #[.float .f64 4591870180066957722, .int .i64 20, .string ⟨#[49, 48, 48, 48, 48, 48, 48, 48, 48, 48, 48, 48, 48, 48, 48, 48, 48, 53, 53, 53]⟩, .int .i64 0] W fun e w' => e = .returned (.bool true) ∧ Below W.heap.size W w'))
    (TI : Hid (∀ W, Calls Tryz.prog 17 #[.float .f64 18442240474082181120] W fun e w' => e = .returned (.tuple #[.string ⟨#[]⟩, enoV 50]) ∧ Below W.heap.size W w'))
    (EN : Hid (∀ W, Calls Tryz.prog 20 #[.int .u64 9221120237041090561] W fun e w' => e = .returned (.tuple #[.string ⟨#[]⟩, enoV 50]) ∧ Below W.heap.size W w'))
    (Q0 : Hid (∀ W, Calls Tryz.prog 24 #[.int .u64 4607182418800017408, .int .i64 0] W fun e w' => e = .returned (.tuple #[.string ⟨#[]⟩, .int .i64 0, enoV 2]) ∧ Below W.heap.size W w'))
    (Q1 : Hid (∀ W, Calls Tryz.prog 24 #[.int .u64 4607182418800017408, .int .i64 801] W fun e w' => e = .returned (.tuple #[.string ⟨#[]⟩, .int .i64 0, enoV 2]) ∧ Below W.heap.size W w'))
    (Q2 : Hid (∀ W, Calls Tryz.prog 24 #[.int .u64 9218868437227405312, .int .i64 0] W fun e w' => e = .returned (.tuple #[.string ⟨#[]⟩, .int .i64 0, enoV 50]) ∧ Below W.heap.size W w'))
    (N50 : Hid (∀ W, Calls Tryz.prog 15 #[enoV 50] W fun e w' => e = .returned (.int .i64 50) ∧ W = w'))
    (N2 : Hid (∀ W, Calls Tryz.prog 15 #[enoV 2] W fun e w' => e = .returned (.int .i64 2) ∧ W = w')) :
    Calls Tryz.prog 7 #[] w fun e w' => e = .returned (.bool true) ∧ Below w.heap.size w w' := by
  have HCS := Lib.hid copysign_neg
  have HIN := Lib.hid inf_neg
  have HIP := Lib.hid inf_pos
  have HNA := Lib.hid nan_at
  have cb0 : ∀ W, (callFunc 29 #[.float .f64 4591870180066957722]).run Tryz.prog W = .ok (.value (.int .u64 4591870180066957722)) W := call_bits 4591870180066957722
  have cb1 : ∀ W, (callFunc 29 #[.float .f64 13835621005235585024]).run Tryz.prog W = .ok (.value (.int .u64 13835621005235585024)) W := call_bits 13835621005235585024
  have cb2 : ∀ W, (callFunc 29 #[.float .f64 4607182418800017408]).run Tryz.prog W = .ok (.value (.int .u64 4607182418800017408)) W := call_bits 4607182418800017408
  have cb3 : ∀ W, (callFunc 29 #[.float .f64 9221120237041090561]).run Tryz.prog W = .ok (.value (.int .u64 9221120237041090561)) W := call_bits 9221120237041090561
  have cb4 : ∀ W, (callFunc 29 #[.float .f64 9218868437227405312]).run Tryz.prog W = .ok (.value (.int .u64 9218868437227405312)) W := call_bits 9218868437227405312
  have BB := Lib.hid (Below.refl w.heap.size w)
  go_enter Tryz.func7, Tryz.ntmps7
  go_wp2_with fail
  refine (HW.out _ BB.out).mono ?_
  rintro e v1 ⟨rfl, hb⟩
  have BB := Lib.hid (keepb BB.out hb)
  clear hb
  go_wp2_with fail
  refine (HCS.out _).mono ?_
  rintro e v2 ⟨rfl, rfl⟩
  go_wp2_with fail
  refine (R0.out _).mono ?_
  rintro e v3 ⟨rfl, hb⟩
  have BB := Lib.hid (keepb BB.out hb)
  clear hb
  go_wp2_with fail
  refine (R1.out _).mono ?_
  rintro e v4 ⟨rfl, hb⟩
  have BB := Lib.hid (keepb BB.out hb)
  clear hb
  go_wp2_with fail
  refine (R2.out _).mono ?_
  rintro e v5 ⟨rfl, hb⟩
  have BB := Lib.hid (keepb BB.out hb)
  clear hb
  go_wp2_with fail
  refine (R3.out _).mono ?_
  rintro e v6 ⟨rfl, hb⟩
  have BB := Lib.hid (keepb BB.out hb)
  clear hb
  go_wp2_with fail
  refine (R4.out _).mono ?_
  rintro e v7 ⟨rfl, hb⟩
  have BB := Lib.hid (keepb BB.out hb)
  clear hb
  go_wp2_with fail
  refine (R5.out _).mono ?_
  rintro e v8 ⟨rfl, hb⟩
  have BB := Lib.hid (keepb BB.out hb)
  clear hb
  go_wp2_with fail
  refine (R6.out _).mono ?_
  rintro e v9 ⟨rfl, hb⟩
  have BB := Lib.hid (keepb BB.out hb)
  clear hb
  go_wp2_with fail
  refine (R7.out _).mono ?_
  rintro e v10 ⟨rfl, hb⟩
  have BB := Lib.hid (keepb BB.out hb)
  clear hb
  go_wp2_with fail
  refine (R8.out _).mono ?_
  rintro e v11 ⟨rfl, hb⟩
  have BB := Lib.hid (keepb BB.out hb)
  clear hb
  go_wp2_with fail
  refine (X0.out _ BB.out).mono ?_
  rintro e v12 ⟨rfl, hb⟩
  have BB := Lib.hid (keepb BB.out hb)
  clear hb
  go_wp2_with fail
  refine (X1.out _ BB.out).mono ?_
  rintro e v13 ⟨rfl, hb⟩
  have BB := Lib.hid (keepb BB.out hb)
  clear hb
  go_wp2_with fail
  refine (X2.out _ BB.out).mono ?_
  rintro e v14 ⟨rfl, hb⟩
  have BB := Lib.hid (keepb BB.out hb)
  clear hb
  go_wp2_with fail
  refine (X3.out _ BB.out).mono ?_
  rintro e v15 ⟨rfl, hb⟩
  have BB := Lib.hid (keepb BB.out hb)
  clear hb
  go_wp2_with fail
  refine (X4.out _ BB.out).mono ?_
  rintro e v16 ⟨rfl, hb⟩
  have BB := Lib.hid (keepb BB.out hb)
  clear hb
  go_wp2_with fail
  refine (X5.out _ BB.out).mono ?_
  rintro e v17 ⟨rfl, hb⟩
  have BB := Lib.hid (keepb BB.out hb)
  clear hb
  go_wp2_with fail
  refine (X6.out _ BB.out).mono ?_
  rintro e v18 ⟨rfl, hb⟩
  have BB := Lib.hid (keepb BB.out hb)
  clear hb
  go_wp2_with fail
  refine (X7.out _ BB.out).mono ?_
  rintro e v19 ⟨rfl, hb⟩
  have BB := Lib.hid (keepb BB.out hb)
  clear hb
  go_wp2_with fail
  refine (X8.out _ BB.out).mono ?_
  rintro e v20 ⟨rfl, hb⟩
  have BB := Lib.hid (keepb BB.out hb)
  clear hb
  go_wp2_with fail
  refine (X9.out _ BB.out).mono ?_
  rintro e v21 ⟨rfl, hb⟩
  have BB := Lib.hid (keepb BB.out hb)
  clear hb
  go_wp2_with fail
  refine (E0.out _).mono ?_
  rintro e v22 ⟨rfl, hb⟩
  have BB := Lib.hid (keepb BB.out hb)
  clear hb
  go_wp2_with fail
  refine (E1.out _).mono ?_
  rintro e v23 ⟨rfl, hb⟩
  have BB := Lib.hid (keepb BB.out hb)
  clear hb
  go_wp2_with fail
  refine (E2.out _).mono ?_
  rintro e v24 ⟨rfl, hb⟩
  have BB := Lib.hid (keepb BB.out hb)
  clear hb
  go_wp2_with fail
  refine (A0.out _).mono ?_
  rintro e v25 ⟨rfl, hb⟩
  have BB := Lib.hid (keepb BB.out hb)
  clear hb
  have B0 := Lib.hid (Blk.new v25 40 #[.string ⟨#[48, 46, 57, 57, 57, 57, 57, 57, 57, 57, 57, 57, 57, 57, 57, 57, 57, 57, 52, 52, 52, 56, 56, 56, 52, 56, 55, 54, 56, 55, 52, 50, 49, 55, 50, 57, 55, 56, 56, 49, 56, 52, 49, 54, 53, 57, 53, 52, 53, 56, 57, 56, 52, 51, 55, 53]⟩, .string ⟨#[49, 46, 48, 48, 48, 48, 48, 48, 48, 48, 48, 48, 48, 48, 48, 48, 48, 49, 49, 49, 48, 50, 50, 51, 48, 50, 52, 54, 50, 53, 49, 53, 54, 53, 52, 48, 52, 50, 51, 54, 51, 49, 54, 54, 56, 48, 57, 48, 56, 50, 48, 51, 49, 50, 53]⟩, .bool true])
  have BB := Lib.hid (BB.out.alloc BB.out.size (.cells #[.string ⟨#[48, 46, 57, 57, 57, 57, 57, 57, 57, 57, 57, 57, 57, 57, 57, 57, 57, 57, 52, 52, 52, 56, 56, 56, 52, 56, 55, 54, 56, 55, 52, 50, 49, 55, 50, 57, 55, 56, 56, 49, 56, 52, 49, 54, 53, 57, 53, 52, 53, 56, 57, 56, 52, 51, 55, 53]⟩, .string ⟨#[49, 46, 48, 48, 48, 48, 48, 48, 48, 48, 48, 48, 48, 48, 48, 48, 48, 49, 49, 49, 48, 50, 50, 51, 48, 50, 52, 54, 50, 53, 49, 53, 54, 53, 52, 48, 52, 50, 51, 54, 51, 49, 54, 54, 56, 48, 57, 48, 56, 50, 48, 51, 49, 50, 53]⟩, .bool true] 40))
  go_wp2_with fail
  refine (A1.out _).mono ?_
  rintro e v26 ⟨rfl, hb⟩
  have B0 := Lib.hid (B0.out.st hb)
  have BB := Lib.hid (keepb BB.out hb)
  clear hb
  have B0 := Lib.hid (B0.out.alloc (.cells #[.string ⟨#[57, 48, 48, 55, 49, 57, 57, 50, 53, 52, 55, 52, 48, 57, 57, 51]⟩, .string ⟨#[57, 48, 48, 55, 49, 57, 57, 50, 53, 52, 55, 52, 48, 57, 57, 53]⟩, .bool false] 40))
  have B1 := Lib.hid (Blk.new v26 40 #[.string ⟨#[57, 48, 48, 55, 49, 57, 57, 50, 53, 52, 55, 52, 48, 57, 57, 51]⟩, .string ⟨#[57, 48, 48, 55, 49, 57, 57, 50, 53, 52, 55, 52, 48, 57, 57, 53]⟩, .bool false])
  have BB := Lib.hid (BB.out.alloc BB.out.size (.cells #[.string ⟨#[57, 48, 48, 55, 49, 57, 57, 50, 53, 52, 55, 52, 48, 57, 57, 51]⟩, .string ⟨#[57, 48, 48, 55, 49, 57, 57, 50, 53, 52, 55, 52, 48, 57, 57, 53]⟩, .bool false] 40))
  go_wp2_with fail
  refine (A2.out _).mono ?_
  rintro e v27 ⟨rfl, hb⟩
  have B0 := Lib.hid (B0.out.st hb)
  have B1 := Lib.hid (B1.out.st hb)
  have BB := Lib.hid (keepb BB.out hb)
  clear hb
  have B0 := Lib.hid (B0.out.alloc (.cells #[.string ⟨#[48]⟩, .string ⟨tl.toArray⟩, .bool true] 40))
  have B1 := Lib.hid (B1.out.alloc (.cells #[.string ⟨#[48]⟩, .string ⟨tl.toArray⟩, .bool true] 40))
  have B2 := Lib.hid (Blk.new v27 40 #[.string ⟨#[48]⟩, .string ⟨tl.toArray⟩, .bool true])
  have BB := Lib.hid (BB.out.alloc BB.out.size (.cells #[.string ⟨#[48]⟩, .string ⟨tl.toArray⟩, .bool true] 40))
  obtain ⟨c00, c01, c02, _, _, _⟩ := B0.out.three
  obtain ⟨c10, c11, c12, _, _, _⟩ := B1.out.three
  obtain ⟨c20, c21, c22, _, _, _⟩ := B2.out.three
  go_wp2_with fail
  refine (D0.out _).mono ?_
  rintro e v28 ⟨rfl, hb⟩
  have B0 := Lib.hid (B0.out.st hb)
  have B1 := Lib.hid (B1.out.st hb)
  have B2 := Lib.hid (B2.out.st hb)
  have BB := Lib.hid (keepb BB.out hb)
  clear hb
  clear c00 c01 c02 c10 c11 c12 c20 c21 c22
  go_wp2_with fail
  refine (D1.out _).mono ?_
  rintro e v29 ⟨rfl, hb⟩
  have B0 := Lib.hid (B0.out.st hb)
  have B1 := Lib.hid (B1.out.st hb)
  have B2 := Lib.hid (B2.out.st hb)
  have BB := Lib.hid (keepb BB.out hb)
  clear hb
  go_wp2_with fail
  refine (D2.out _).mono ?_
  rintro e v30 ⟨rfl, hb⟩
  have B0 := Lib.hid (B0.out.st hb)
  have B1 := Lib.hid (B1.out.st hb)
  have B2 := Lib.hid (B2.out.st hb)
  have BB := Lib.hid (keepb BB.out hb)
  clear hb
  go_wp2_with fail
  refine (D3.out _).mono ?_
  rintro e v31 ⟨rfl, hb⟩
  have B0 := Lib.hid (B0.out.st hb)
  have B1 := Lib.hid (B1.out.st hb)
  have B2 := Lib.hid (B2.out.st hb)
  have BB := Lib.hid (keepb BB.out hb)
  clear hb
  go_wp2_with fail
  refine (HIN.out _).mono ?_
  rintro e v32 ⟨rfl, rfl⟩
  go_wp2_with fail
  refine (TI.out _).mono ?_
  rintro e v33 ⟨rfl, hb⟩
  have B0 := Lib.hid (B0.out.st hb)
  have B1 := Lib.hid (B1.out.st hb)
  have B2 := Lib.hid (B2.out.st hb)
  have BB := Lib.hid (keepb BB.out hb)
  clear hb
  go_wp2_with fail
  refine (HNA.out _).mono ?_
  rintro e v34 ⟨rfl, rfl⟩
  go_wp2_with fail
  refine (EN.out _).mono ?_
  rintro e v35 ⟨rfl, hb⟩
  have B0 := Lib.hid (B0.out.st hb)
  have B1 := Lib.hid (B1.out.st hb)
  have B2 := Lib.hid (B2.out.st hb)
  have BB := Lib.hid (keepb BB.out hb)
  clear hb
  go_wp2_with fail
  refine (Q0.out _).mono ?_
  rintro e v36 ⟨rfl, hb⟩
  have B0 := Lib.hid (B0.out.st hb)
  have B1 := Lib.hid (B1.out.st hb)
  have B2 := Lib.hid (B2.out.st hb)
  have BB := Lib.hid (keepb BB.out hb)
  clear hb
  go_wp2_with fail
  refine (Q1.out _).mono ?_
  rintro e v37 ⟨rfl, hb⟩
  have B0 := Lib.hid (B0.out.st hb)
  have B1 := Lib.hid (B1.out.st hb)
  have B2 := Lib.hid (B2.out.st hb)
  have BB := Lib.hid (keepb BB.out hb)
  clear hb
  go_wp2_with fail
  refine (HIP.out _).mono ?_
  rintro e v38 ⟨rfl, rfl⟩
  go_wp2_with fail
  refine (Q2.out _).mono ?_
  rintro e v39 ⟨rfl, hb⟩
  have B0 := Lib.hid (B0.out.st hb)
  have B1 := Lib.hid (B1.out.st hb)
  have B2 := Lib.hid (B2.out.st hb)
  have BB := Lib.hid (keepb BB.out hb)
  clear hb
  go_wp2_with fail
  refine (N50.out _).mono ?_
  rintro e v40 ⟨rfl, rfl⟩
  go_wp2_with fail
  refine (N50.out _).mono ?_
  rintro e v41 ⟨rfl, rfl⟩
  go_wp2_with fail
  refine (N2.out _).mono ?_
  rintro e v42 ⟨rfl, rfl⟩
  go_wp2_with fail
  refine (N2.out _).mono ?_
  rintro e v43 ⟨rfl, rfl⟩
  go_wp2_with fail
  refine (N50.out _).mono ?_
  rintro e v44 ⟨rfl, rfl⟩
  go_wp2_with fail
  go_ret
  exact ⟨rfl, BB.out⟩
theorem ex_tenth (W : World) : Calls Tryz.prog 20 #[.int .u64 4591870180066957722] W fun e w' => e = .returned (.tuple #[.string ⟨#[48, 46, 49, 48, 48, 48, 48, 48, 48, 48, 48, 48, 48, 48, 48, 48, 48, 48, 48, 53, 53, 53, 49, 49, 49, 53, 49, 50, 51, 49, 50, 53, 55, 56, 50, 55, 48, 50, 49, 49, 56, 49, 53, 56, 51, 52, 48, 52, 53, 52, 49, 48, 49, 53, 54, 50, 53]⟩, .nilIface]) ∧ Below W.heap.size W w' := by
  have h := exact_fin 4591870180066957722 4591870180066957722 W (by decide) (by decide) (by rw [most_lit]; decide)
  rw [form_tenth] at h
  exact h
theorem ex_two (W : World) : Calls Tryz.prog 20 #[.int .u64 13835621005235585024] W fun e w' => e = .returned (.tuple #[.string ⟨#[45, 50, 46, 50, 53]⟩, .nilIface]) ∧ Below W.heap.size W w' := by
  have h := exact_fin 13835621005235585024 4612248968380809216 W (by decide) (by decide) (by rw [most_lit]; decide)
  rw [form_two25] at h
  exact h
theorem ex_zero (W : World) : Calls Tryz.prog 20 #[.int .u64 9223372036854775808] W fun e w' => e = .returned (.tuple #[.string ⟨#[48]⟩, .nilIface]) ∧ Below W.heap.size W w' := by
  have h := exact_fin 9223372036854775808 0 W (by decide) (by decide) (by rw [most_lit]; decide)
  have hz : sz 0 = 0 := by unfold sz; rw [Fl_zero, Nat.mul_zero, Nat.zero_mul]
  rw [hz, form_zero] at h
  exact h
theorem ar_one (W : World) : Calls Tryz.prog 22 #[.int .u64 4607182418800017408] W fun e w' => e = .returned (.tuple #[.agg #[.string ⟨#[48, 46, 57, 57, 57, 57, 57, 57, 57, 57, 57, 57, 57, 57, 57, 57, 57, 57, 52, 52, 52, 56, 56, 56, 52, 56, 55, 54, 56, 55, 52, 50, 49, 55, 50, 57, 55, 56, 56, 49, 56, 52, 49, 54, 53, 57, 53, 52, 53, 56, 57, 56, 52, 51, 55, 53]⟩, .string ⟨#[49, 46, 48, 48, 48, 48, 48, 48, 48, 48, 48, 48, 48, 48, 48, 48, 48, 49, 49, 49, 48, 50, 50, 51, 48, 50, 52, 54, 50, 53, 49, 53, 54, 53, 52, 48, 52, 50, 51, 54, 51, 49, 54, 54, 56, 48, 57, 48, 56, 50, 48, 51, 49, 50, 53]⟩, .bool true], .nilIface]) ∧ Below W.heap.size W w' := by
  have h := around_fin 4607182418800017408 4607182418800017408 W (by decide) (by decide) (by rw [most_lit]; decide)
  rw [form_onelo, form_onehi] at h
  exact h
theorem ar_od (W : World) : Calls Tryz.prog 22 #[.int .u64 4845873199050653697] W fun e w' => e = .returned (.tuple #[.agg #[.string ⟨#[57, 48, 48, 55, 49, 57, 57, 50, 53, 52, 55, 52, 48, 57, 57, 51]⟩, .string ⟨#[57, 48, 48, 55, 49, 57, 57, 50, 53, 52, 55, 52, 48, 57, 57, 53]⟩, .bool false], .nilIface]) ∧ Below W.heap.size W w' := by
  have h := around_fin 4845873199050653697 4845873199050653697 W (by decide) (by decide) (by rw [most_lit]; decide)
  rw [form_odlo, form_odhi] at h
  exact h
theorem ar_zero (W : World) : Calls Tryz.prog 22 #[.int .u64 0] W fun e w' => e = .returned (.tuple #[.agg #[.string ⟨#[48]⟩, .string ⟨(formN (toN 0)).toArray⟩, .bool true], .nilIface]) ∧ Below W.heap.size W w' := by
  have h := around_fin 0 0 W (by decide) (by decide) (by rw [most_lit]; decide)
  have hz : fromN 0 = 0 := by unfold fromN; rw [if_pos rfl]
  rw [hz, form_zero] at h
  generalize (formN (toN 0)) = tl at *
  exact h
theorem toN_zero : toN 0 = U5 := by
  have h1 : Fl 1 = 1 := by decide
  unfold toN
  rw [Fl_zero, h1, Nat.zero_add, Nat.one_mul]
theorem tl_len : (formN (toN 0)).length = 1077 := by
  rw [toN_zero]
  have hu : unitE = 1075 := rfl
  have h5 : U5 % 10 ≠ 0 := by decide +kernel
  have hlt : U5 < 10 ^ unitE := by
    unfold U5
    exact Nat.pow_lt_pow_left (by decide) (by decide)
  have hL : lenD U5 ≤ unitE := dtext_len hlt (by decide)
  rw [form_long h5 hL, hu]
theorem walk (w : World) (ht : Tab w) :
    Calls Tryz.prog 7 #[] w fun e w' => e = .returned (.bool true) ∧ Below w.heap.size w w' := by
  refine known_walk w (formN (toN 0)) tl_len (Lib.hid (fun W (h : Below w.heap.size w W) => works_yes W (ht.below h)))
    (Lib.hid (fun W => row_true 4607182418800017408 4607182418800017408 _ _ W (by decide) (by decide) (by rw [most_lit]; decide) sh_one))
    (Lib.hid (fun W => row_true 4591870180066957722 4591870180066957722 _ _ W (by decide) (by decide) (by rw [most_lit]; decide) sh_tenth))
    (Lib.hid (fun W => row_true 4636737291354636288 4636737291354636288 _ _ W (by decide) (by decide) (by rw [most_lit]; decide) sh_hund))
    (Lib.hid (fun W => row_true 4638387860618067575 4638387860618067575 _ _ W (by decide) (by decide) (by rw [most_lit]; decide) sh_mixed))
    (Lib.hid (fun W => row_true 1 1 _ _ W (by decide) (by decide) (by rw [most_lit]; decide) sh_least))
    (Lib.hid (fun W => row_true 0 0 _ _ W (by decide) (by decide) (by rw [most_lit]; decide) zero_short))
    (Lib.hid (fun W => row_true 9223372036854775808 0 _ _ W (by decide) (by decide) (by rw [most_lit]; decide) zero_short))
    (Lib.hid (fun W => row_true 4845873199050653696 4845873199050653696 _ _ W (by decide) (by decide) (by rw [most_lit]; decide) sh_p53))
    (Lib.hid (fun W => row_true 4832362400168542209 4832362400168542209 _ _ W (by decide) (by decide) (by rw [most_lit]; decide) sh_p50))
    (Lib.hid (fun W h => text_true 4921056587992461136 4921056587992461136 _ W (by decide) (by decide) (by rw [most_lit]; decide) tx_e21 (ht.below h)))
    (Lib.hid (fun W h => text_true 4906019910204099648 4906019910204099648 _ W (by decide) (by decide) (by rw [most_lit]; decide) tx_e20 (ht.below h)))
    (Lib.hid (fun W h => text_true 4517329193108106637 4517329193108106637 _ W (by decide) (by decide) (by rw [most_lit]; decide) tx_em6 (ht.below h)))
    (Lib.hid (fun W h => text_true 4502148214488346440 4502148214488346440 _ W (by decide) (by decide) (by rw [most_lit]; decide) tx_em7 (ht.below h)))
    (Lib.hid (fun W h => text_true 9223372036854775808 0 _ W (by decide) (by decide) (by rw [most_lit]; decide) (digitsBack.whole_zero (by decide)) (ht.below h)))
    (Lib.hid (fun W h => text_true 4518434226865098134 4518434226865098134 _ W (by decide) (by decide) (by rw [most_lit]; decide) tx_tiny (ht.below h)))
    (Lib.hid (fun W h => text_true 9097811302482466869 9097811302482466869 _ W (by decide) (by decide) (by rw [most_lit]; decide) tx_e300 (ht.below h)))
    (Lib.hid (fun W h => text_true 4734372014072354133 4734372014072354133 _ W (by decide) (by decide) (by rw [most_lit]; decide) tx_thirds (ht.below h)))
    (Lib.hid (fun W h => text_true 9218868437227405311 9218868437227405311 _ W (by decide) (by decide) (by rw [most_lit]; decide) tx_max (ht.below h)))
    (Lib.hid (fun W h => text_true 13836183955189006336 4612811918334230528 _ W (by decide) (by decide) (by rw [most_lit]; decide) tx_neg25 (ht.below h)))
    (Lib.hid ex_tenth)
    (Lib.hid ex_two)
    (Lib.hid ex_zero)
    (Lib.hid ar_one)
    (Lib.hid ar_od)
    (Lib.hid ar_zero)
    (Lib.hid (fun W => rounded_true 4612811918334230528 1 _ _ W (by rw [most_lit]; decide) (by decide) (by decide) (by decide) rd_half2))
    (Lib.hid (fun W => rounded_true 4615063718147915776 1 _ _ W (by rw [most_lit]; decide) (by decide) (by decide) (by decide) rd_half4))
    (Lib.hid (fun W => rounded_true 4621796599590834668 2 _ _ W (by rw [most_lit]; decide) (by decide) (by decide) (by decide) rd_near10))
    (Lib.hid (fun W => rounded_true 4591870180066957722 20 _ _ W (by rw [most_lit]; decide) (by decide) (by decide) (by decide) rd_tenth20))
    (Lib.hid (fun W => text_inf 18442240474082181120 W (by decide) (by rw [most_lit]; decide)))
    (Lib.hid (fun W => exact_inf 9221120237041090561 W (by decide) (by rw [most_lit]; decide)))
    (Lib.hid (fun W => rounded_bad 4607182418800017408 0 W (by decide) (by rw [most_lit]; decide) (by decide)))
    (Lib.hid (fun W => rounded_bad 4607182418800017408 801 W (by decide) (by rw [most_lit]; decide) (by decide)))
    (Lib.hid (fun W => rounded_inf 9218868437227405312 0 W (by decide) (by rw [most_lit]; decide)))
    (Lib.hid (fun W => number5 50 W rfl))
    (Lib.hid (fun W => number5 2 W rfl))
end Go.Proofs.YtnajondbdeclmaaGreatDoor.digitsKnown
