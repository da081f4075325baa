/- The contracts of utf.formOf, form.may, utf.character and of the reference's Scalar, wide, second. -/
import Derived.Test.YtmdgopclcdmenaaUtfR
import Derived.Test.YtmdgopclcdmenaaMem
import Derived.Test.YtmdgopclcdmenaaRows
import Derived.WalkKit
import Derived.WalkLawsBesides
import Derived.WalkSpells
import Derived.Handy
namespace Go.Proofs.Ytmdgopclcdmenaa
open Go.RowKit
set_option linter.unusedSimpArgs false
set_option linter.unusedVariables false

/-- The second byte's bounds, as a form of the program has them. -/
def flo (c : Nat) : Nat := if 2 ≤ wd c then lo c else 0
def fhi (c : Nat) : Nat := if 2 ≤ wd c then hi c else 0
abbrev formV (c : Nat) : Value := .agg #[.int .i64 (wd c : Nat), .int .u8 (flo c : Nat), .int .u8 (fhi c : Nat)]

theorem formOf_is (c n l h : Nat) (w : World) (hn : wd c = n) (hl : flo c = l) (hh : fhi c = h) (H : Calls Try.prog 47 #[.int .u8 c] w fun e w' => e = .returned (.agg #[.int .i64 n, .int .u8 l, .int .u8 h]) ∧ Below w.heap.size w w') :
    Calls Try.prog 47 #[.int .u8 c] w fun e w' => e = .returned (formV c) ∧ Below w.heap.size w w' := by
  unfold formV; rw [hn, hl, hh]; exact H

def secB (c d : Nat) : Bool := decide (lo c ≤ d ∧ d ≤ hi c)
theorem cl1 : ∀ c, c < 256 → c < 128 → wd c = 1 ∧ flo c = 0 ∧ fhi c = 0 := by decide +kernel
theorem cl2 : ∀ c, c < 256 → ¬ c < 128 → c < 194 → wd c = 0 ∧ flo c = 0 ∧ fhi c = 0 := by decide +kernel
theorem cl3 : ∀ c, c < 256 → ¬ c < 194 → c < 224 → wd c = 2 ∧ flo c = 128 ∧ fhi c = 191 := by decide +kernel
theorem cl6' : ∀ c, c < 256 → (224 ≤ c ∧ c ≠ 224 ∧ c ≠ 237 ∧ c < 240) → wd c = 3 ∧ flo c = 128 ∧ fhi c = 191 := by decide +kernel
theorem cl6 (c : Nat) (h0 : c < 256) (h1 : ¬ c < 224) (h2 : c ≠ 224) (h3 : c ≠ 237) (h4 : c < 240) : wd c = 3 ∧ flo c = 128 ∧ fhi c = 191 := cl6' c h0 ⟨by omega, h2, h3, h4⟩
theorem cl8 : ∀ c, c < 256 → ¬ c < 240 → c ≠ 240 → c < 244 → wd c = 4 ∧ flo c = 128 ∧ fhi c = 191 := by decide +kernel
theorem cl9 : ∀ c, c < 256 → ¬ c < 244 → c ≠ 244 → wd c = 0 ∧ flo c = 0 ∧ fhi c = 0 := by decide +kernel
theorem sc0 : ∀ c, c < 256 → ∀ d, d < 256 → (d < 128 ∨ 191 < d) → secB c d = false := by decide +kernel
theorem sc1 : ∀ c, c < 256 → (c ≠ 224 ∧ c ≠ 237 ∧ c ≠ 240 ∧ c ≠ 244) → ∀ d, d < 256 → (128 ≤ d ∧ d ≤ 191) → secB c d = true := by decide +kernel

set_option maxRecDepth 100000 in
set_option maxHeartbeats 2000000 in
theorem formOf_any (c : Nat) (w : World) (hc : c < 256) : Calls Try.prog 47 #[.int .u8 c] w fun e w' => e = .returned (formV c) ∧ Below w.heap.size w w' := by
  by_cases h1 : c < 128
  · refine formOf_is c 1 0 0 w (cl1 c hc h1).1 (cl1 c hc h1).2.1 (cl1 c hc h1).2.2 ?_
    go_enter Try.func47, Try.ntmps47
    go_wp2
    exact bodyPost_ret (v := .agg #[.int .i64 1, .int .u8 0, .int .u8 0]) (by simp [results, Try.results47, go_sem]) rfl ⟨rfl, by go_grown⟩
  by_cases h2 : c < 194
  · refine formOf_is c 0 0 0 w (cl2 c hc h1 h2).1 (cl2 c hc h1 h2).2.1 (cl2 c hc h1 h2).2.2 ?_
    go_enter Try.func47, Try.ntmps47
    go_wp2
    exact bodyPost_ret (v := .agg #[.int .i64 0, .int .u8 0, .int .u8 0]) (by simp [results, Try.results47, go_sem]) rfl ⟨rfl, by go_grown⟩
  by_cases h3 : c < 224
  · refine formOf_is c 2 128 191 w (cl3 c hc h2 h3).1 (cl3 c hc h2 h3).2.1 (cl3 c hc h2 h3).2.2 ?_
    go_enter Try.func47, Try.ntmps47
    go_wp2
    exact bodyPost_ret (v := .agg #[.int .i64 2, .int .u8 128, .int .u8 191]) (by simp [results, Try.results47, go_sem]) rfl ⟨rfl, by go_grown⟩
  by_cases h4 : c = 224
  · subst h4
    refine formOf_is 224 3 160 191 w (by decide) (by decide) (by decide) ?_
    go_enter Try.func47, Try.ntmps47
    go_wp2
    exact bodyPost_ret (v := .agg #[.int .i64 3, .int .u8 160, .int .u8 191]) (by simp [results, Try.results47, go_sem]) rfl ⟨rfl, by go_grown⟩
  by_cases h5 : c = 237
  · subst h5
    refine formOf_is 237 3 128 159 w (by decide) (by decide) (by decide) ?_
    go_enter Try.func47, Try.ntmps47
    go_wp2
    exact bodyPost_ret (v := .agg #[.int .i64 3, .int .u8 128, .int .u8 159]) (by simp [results, Try.results47, go_sem]) rfl ⟨rfl, by go_grown⟩
  by_cases h6 : c < 240
  · have e4 : ((c : Int) == 224) = false := by simp; omega
    have e5 : ((c : Int) == 237) = false := by simp; omega
    refine formOf_is c 3 128 191 w (cl6 c hc h3 h4 h5 h6).1 (cl6 c hc h3 h4 h5 h6).2.1 (cl6 c hc h3 h4 h5 h6).2.2 ?_
    go_enter Try.func47, Try.ntmps47
    go_wp2
    exact bodyPost_ret (v := .agg #[.int .i64 3, .int .u8 128, .int .u8 191]) (by simp [results, Try.results47, go_sem]) rfl ⟨rfl, by go_grown⟩
  by_cases h7 : c = 240
  · subst h7
    refine formOf_is 240 4 144 191 w (by decide) (by decide) (by decide) ?_
    go_enter Try.func47, Try.ntmps47
    go_wp2
    exact bodyPost_ret (v := .agg #[.int .i64 4, .int .u8 144, .int .u8 191]) (by simp [results, Try.results47, go_sem]) rfl ⟨rfl, by go_grown⟩
  by_cases h8 : c < 244
  · have e4 : ((c : Int) == 224) = false := by simp; omega
    have e5 : ((c : Int) == 237) = false := by simp; omega
    have e6 : ((c : Int) == 240) = false := by simp; omega
    refine formOf_is c 4 128 191 w (cl8 c hc h6 h7 h8).1 (cl8 c hc h6 h7 h8).2.1 (cl8 c hc h6 h7 h8).2.2 ?_
    go_enter Try.func47, Try.ntmps47
    go_wp2
    exact bodyPost_ret (v := .agg #[.int .i64 4, .int .u8 128, .int .u8 191]) (by simp [results, Try.results47, go_sem]) rfl ⟨rfl, by go_grown⟩
  by_cases h9 : c = 244
  · subst h9
    refine formOf_is 244 4 128 143 w (by decide) (by decide) (by decide) ?_
    go_enter Try.func47, Try.ntmps47
    go_wp2
    exact bodyPost_ret (v := .agg #[.int .i64 4, .int .u8 128, .int .u8 143]) (by simp [results, Try.results47, go_sem]) rfl ⟨rfl, by go_grown⟩
  have e4 : ((c : Int) == 224) = false := by simp; omega
  have e5 : ((c : Int) == 237) = false := by simp; omega
  have e6 : ((c : Int) == 240) = false := by simp; omega
  have e7 : ((c : Int) == 244) = false := by simp; omega
  refine formOf_is c 0 0 0 w (cl9 c hc h8 h9).1 (cl9 c hc h8 h9).2.1 (cl9 c hc h8 h9).2.2 ?_
  go_enter Try.func47, Try.ntmps47
  go_wp2
  exact bodyPost_ret (v := .agg #[.int .i64 0, .int .u8 0, .int .u8 0]) (by simp [results, Try.results47, go_sem]) rfl ⟨rfl, by go_grown⟩

/-- form.may. -/
def mayB (l h i d : Nat) : Bool := if i = 1 then decide (l ≤ d ∧ d ≤ h) else decide (128 ≤ d ∧ d ≤ 191)
theorem mayB_ok (c i d : Nat) (h : 2 ≤ wd c) : mayB (flo c) (fhi c) i d = okb c i d := by unfold mayB okb flo fhi; rw [if_pos h, if_pos h]
theorem ret_bool {a b : Bool} (h : a = b) : Ending.returned (.bool a) = .returned (.bool b) := by rw [h]

theorem may_any (n l h i d : Nat) (w : World) (hl : l < 256) (hh : h < 256) (hd : d < 256) (hi : i < 1000000) :
    Calls Try.prog 48 #[.agg #[.int .i64 n, .int .u8 l, .int .u8 h], .int .i64 i, .int .u8 d] w fun e w' => e = .returned (.bool (mayB l h i d)) ∧ Below w.heap.size w w' := by
  by_cases h1 : i = 1
  · subst h1
    by_cases h2 : l ≤ d
    · by_cases h3 : d ≤ h
      · have E : mayB l h 1 d = true := by simp [mayB]; omega
        rw [E]
        clear E
        go_enter Try.func48, Try.ntmps48
        go_wp2
        go_ret
        exact ⟨rfl, by go_grown⟩
      · have E : mayB l h 1 d = false := by simp [mayB]; omega
        rw [E]
        clear E
        have h3' : decide (d ≤ h) = false := by simpa using h3
        go_enter Try.func48, Try.ntmps48
        go_wp2
        go_ret
        exact ⟨rfl, by go_grown⟩
    · have E : mayB l h 1 d = false := by simp [mayB]; omega
      rw [E]
      clear E
      have h3' : decide (l ≤ d) = false := by simpa using h2
      go_enter Try.func48, Try.ntmps48
      go_wp2
      go_ret
      exact ⟨rfl, by go_grown⟩
  · have e1 : ((i : Int) == 1) = false := by simp; omega
    by_cases h2 : 128 ≤ d
    · by_cases h3 : d ≤ 191
      · have E : mayB l h i d = true := by simp [mayB, h1]; omega
        rw [E]
        clear E
        go_enter Try.func48, Try.ntmps48
        go_wp2
        go_ret
        exact ⟨ret_bool (by simp <;> omega), by go_grown⟩
      · have E : mayB l h i d = false := by simp [mayB, h1]; omega
        rw [E]
        clear E
        go_enter Try.func48, Try.ntmps48
        go_wp2
        go_ret
        exact ⟨ret_bool (by simp <;> omega), by go_grown⟩
    · have E : mayB l h i d = false := by simp [mayB, h1]; omega
      rw [E]
      clear E
      go_enter Try.func48, Try.ntmps48
      go_wp2
      go_ret
      exact ⟨ret_bool (by simp <;> omega), by go_grown⟩

/-- A number of 32 bits that is a character. -/
def scalB (r : Int) : Bool := decide (0 ≤ r ∧ r < 55296 ∨ 57343 < r ∧ r ≤ 1114111)
theorem character_any (r : Int) (w : World) :
    Calls Try.prog 46 #[.int .i32 r] w fun e w' => e = .returned (.bool (scalB r)) ∧ w = w' := by
  by_cases h0 : 0 ≤ r
  · by_cases h1 : r < 55296
    · have E : scalB r = true := by simp [scalB]; omega
      rw [E]; clear E
      have h2 : r ≤ 1114111 := by omega
      go_enter Try.func46, Try.ntmps46
      go_wp2
      go_ret
      exact ⟨rfl, rfl⟩
    · by_cases h2 : r ≤ 1114111
      · by_cases h3 : 57343 < r
        · have E : scalB r = true := by simp [scalB]; omega
          rw [E]; clear E
          go_enter Try.func46, Try.ntmps46
          go_wp2
          go_ret
          exact ⟨rfl, rfl⟩
        · have E : scalB r = false := by simp [scalB]; omega
          rw [E]; clear E
          go_enter Try.func46, Try.ntmps46
          go_wp2
          go_ret
          exact ⟨rfl, rfl⟩
      · have h3 : 57343 < r := by omega
        have E : scalB r = false := by simp [scalB]; omega
        rw [E]; clear E
        go_enter Try.func46, Try.ntmps46
        go_wp2
        go_ret
        exact ⟨rfl, rfl⟩
  · have E : scalB r = false := by simp [scalB]; omega
    rw [E]; clear E
    have h3 : ¬ 57343 < r := by omega
    go_enter Try.func46, Try.ntmps46
    go_wp2
    go_ret
    exact ⟨rfl, rfl⟩
theorem scalar_any (r : Int) (w : World) :
    Calls Try.prog 16 #[.int .i32 r] w fun e w' => e = .returned (.bool (scalB r)) ∧ w = w' := by
  by_cases h0 : 0 ≤ r
  · by_cases h1 : r < 55296
    · have E : scalB r = true := by simp [scalB]; omega
      rw [E]; clear E
      have h2 : r ≤ 1114111 := by omega
      go_enter Try.func16, Try.ntmps16
      go_wp2
      go_ret
      exact ⟨rfl, rfl⟩
    · by_cases h2 : r ≤ 1114111
      · by_cases h3 : 57343 < r
        · have E : scalB r = true := by simp [scalB]; omega
          rw [E]; clear E
          go_enter Try.func16, Try.ntmps16
          go_wp2
          go_ret
          exact ⟨rfl, rfl⟩
        · have E : scalB r = false := by simp [scalB]; omega
          rw [E]; clear E
          go_enter Try.func16, Try.ntmps16
          go_wp2
          go_ret
          exact ⟨rfl, rfl⟩
      · have h3 : 57343 < r := by omega
        have E : scalB r = false := by simp [scalB]; omega
        rw [E]; clear E
        go_enter Try.func16, Try.ntmps16
        go_wp2
        go_ret
        exact ⟨rfl, rfl⟩
  · have E : scalB r = false := by simp [scalB]; omega
    rw [E]; clear E
    have h3 : ¬ 57343 < r := by omega
    go_enter Try.func16, Try.ntmps16
    go_wp2
    go_ret
    exact ⟨rfl, rfl⟩
theorem scalB_nat {r : Int} (h : scalB r = true) : ∃ n : Nat, r = n ∧ Scal n := by
  have := of_decide_eq_true h
  exact ⟨r.toNat, by omega, by unfold Scal; omega⟩

set_option maxRecDepth 100000 in
set_option maxHeartbeats 2000000 in
/-- The reference's wide. -/
theorem wide_any (c : Nat) (w : World) (hc : c < 256) : Calls Try.prog 52 #[.int .u8 c] w fun e w' => e = .returned (.int .i64 (wd c : Nat)) ∧ w = w' := by
  have h : (c < 128 ∧ wd c = 1) ∨ (128 ≤ c ∧ c < 194 ∧ wd c = 0) ∨ (194 ≤ c ∧ c ≤ 223 ∧ wd c = 2) ∨ (224 ≤ c ∧ c ≤ 239 ∧ wd c = 3) ∨ (240 ≤ c ∧ c ≤ 244 ∧ wd c = 4) ∨ (245 ≤ c ∧ wd c = 0) := by
    unfold wd; (repeat' split) <;> omega
  rcases h with ⟨a, e⟩ | ⟨a, b, e⟩ | ⟨a, b, e⟩ | ⟨a, b, e⟩ | ⟨a, b, e⟩ | ⟨a, e⟩
  all_goals
    rw [e]; clear e
    go_enter Try.func52, Try.ntmps52
    go_wp2
    go_ret
    exact ⟨rfl, rfl⟩

theorem secB_ok (c d : Nat) : secB c d = okb c 1 d := by simp [secB, okb]
set_option maxRecDepth 100000 in
theorem second_any (c d : Nat) (w : World) (hc : c < 256) (hd : d < 256) : Calls Try.prog 53 #[.int .u8 c, .int .u8 d] w fun e w' => e = .returned (.bool (secB c d)) ∧ w = w' := by
  by_cases hd1 : d < 128 ∨ 191 < d
  · have E : secB c d = false := sc0 c hc d hd hd1
    rw [E]; clear E
    rcases hd1 with h | h
    · go_enter Try.func53, Try.ntmps53
      go_wp2
      go_ret
      exact ⟨rfl, rfl⟩
    · go_enter Try.func53, Try.ntmps53
      go_wp2
      go_ret
      exact ⟨rfl, rfl⟩
  · have h128 : 128 ≤ d := by omega
    have h191 : d ≤ 191 := by omega
    clear hd1
    by_cases h1 : c = 224
    · subst h1
      go_enter Try.func53, Try.ntmps53
      go_wp2
      go_ret
      exact ⟨ret_bool (by simp [secB, lo, hi, h128, h191] <;> omega), rfl⟩
    by_cases h2 : c = 237
    · subst h2
      go_enter Try.func53, Try.ntmps53
      go_wp2
      go_ret
      exact ⟨ret_bool (by simp [secB, lo, hi, h128, h191] <;> omega), rfl⟩
    by_cases h3 : c = 240
    · subst h3
      go_enter Try.func53, Try.ntmps53
      go_wp2
      go_ret
      exact ⟨ret_bool (by simp [secB, lo, hi, h128, h191] <;> omega), rfl⟩
    by_cases h4 : c = 244
    · subst h4
      go_enter Try.func53, Try.ntmps53
      go_wp2
      go_ret
      exact ⟨ret_bool (by simp [secB, lo, hi, h128, h191] <;> omega), rfl⟩
    have e1 : ((c : Int) == 224) = false := by simp; omega
    have e2 : ((c : Int) == 237) = false := by simp; omega
    have e3 : ((c : Int) == 240) = false := by simp; omega
    have e4 : ((c : Int) == 244) = false := by simp; omega
    have E : secB c d = true := sc1 c hc ⟨h1, h2, h3, h4⟩ d hd ⟨h128, h191⟩
    rw [E]; clear E
    go_enter Try.func53, Try.ntmps53
    go_wp2
    go_ret
    exact ⟨rfl, rfl⟩
end Go.Proofs.Ytmdgopclcdmenaa
