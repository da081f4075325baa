/- Numbers of 128 bits: the contracts of package wide's pairs. -/
import Derived.Test.YtnghcpgdfkchdaaDoorDiv
import Derived.Test.YtnghcpgdfkchdaaDoorTyped
namespace Go.Proofs.YtnghcpgdfkchdaaDoor
open Go.RowKit
set_option linter.unusedSimpArgs false
set_option linter.unusedVariables false

/-- Two to the power 128. -/
def P128 : Nat := W64 * W64
def pHi (N : Nat) : Nat := N / W64
def pLo (N : Nat) : Nat := N % W64
/-- A number of 128 bits as a value of the program. -/
def pv (N : Nat) : Value := .agg #[wv (pHi N), wv (pLo N)]
theorem pHi_lt {N : Nat} (h : N < P128) : pHi N < W64 := by unfold pHi P128 at *; exact Nat.div_lt_of_lt_mul h
theorem pLo_lt (N : Nat) : pLo N < W64 := Nat.mod_lt _ (by unfold W64; omega)
theorem p_eq (N : Nat) : W64 * pHi N + pLo N = N := Nat.div_add_mod _ _
theorem pHi_mk {h l : Nat} (hl : l < W64) : pHi (W64 * h + l) = h := by
  unfold pHi
  rw [Nat.mul_add_div (by unfold W64; omega), Nat.div_eq_of_lt hl, Nat.add_zero]
theorem pLo_mk {h l : Nat} (hl : l < W64) : pLo (W64 * h + l) = l := by
  unfold pLo
  rw [Nat.mul_add_mod, Nat.mod_eq_of_lt hl]
theorem p_lt {h l : Nat} (hh : h < W64) (hl : l < W64) : W64 * h + l < P128 := by unfold P128 W64 at *; omega

theorem mul_pair (x y : Nat) (hx : x < W64) (hy : y < W64) (w : World) :
    Calls Tryd.prog 27 #[wv x, wv y] w fun e w' => e = .returned (pv (x * y)) ∧ Below w.heap.size w w' := by
  have HM := Lib.hid (fun W => mul64 x y hx hy W)
  unfold pv pHi pLo
  generalize x * y / W64 = h at *
  generalize x * y % W64 = l at *
  go_enter Tryd.func27, Tryd.ntmps27
  go_wp2_with fail
  refine (HM.out _).mono ?_
  rintro e w' ⟨rfl, rfl⟩
  go_wp2_with fail
  exact bodyPost_ret (v := .agg #[wv h, wv l]) (by simp [results, Tryd.results27, go_sem]) rfl ⟨rfl, by go_grown⟩

theorem padd_eq (N M : Nat) (hN : N < P128) (hM : M < P128) : pHi ((N + M) % P128) = addLo (pHi N) (pHi M) (addHi (pLo N) (pLo M) 0) ∧ pLo ((N + M) % P128) = addLo (pLo N) (pLo M) 0 ∧
    decide (P128 ≤ N + M) = ((addHi (pHi N) (pHi M) (addHi (pLo N) (pLo M) 0) : Int) == 1) := by
  refine ⟨by unfold pHi pLo addLo addHi P128 W64 at *; omega, by unfold pLo addLo P128 W64 at *; omega, ?_⟩
  rw [Bool.eq_iff_iff, decide_eq_true_iff, beq_iff_eq]
  unfold pHi pLo addHi P128 W64 at *
  omega
theorem add_pair (N M : Nat) (hN : N < P128) (hM : M < P128) (w : World) :
    Calls Tryd.prog 22 #[pv N, pv M] w fun e w' => e = .returned (.tuple #[pv ((N + M) % P128), .bool (decide (P128 ≤ N + M))]) ∧ Below w.heap.size w w' := by
  obtain ⟨e1, e2, e3⟩ := padd_eq N M hN hM
  unfold pv
  rw [e1, e2, e3]
  clear e1 e2 e3
  have hc : addHi (pLo N) (pLo M) 0 ≤ 1 := addHi_le (pLo_lt N) (pLo_lt M) (by omega)
  have c0 := fun W => call_add0 (pLo N) (pLo M) W
  have c1 := fun W => call_add (pHi N) (pHi M) (addHi (pLo N) (pLo M) 0) hc W
  generalize addHi (pHi N) (pHi M) (addHi (pLo N) (pLo M) 0) = x1 at *
  generalize addLo (pHi N) (pHi M) (addHi (pLo N) (pLo M) 0) = x2 at *
  generalize addHi (pLo N) (pLo M) 0 = x3 at *
  generalize addLo (pLo N) (pLo M) 0 = x4 at *
  generalize pHi N = a1 at *
  generalize pLo N = a0 at *
  generalize pHi M = b1 at *
  generalize pLo M = b0 at *
  generalize ht : ((x1 : Int) == 1) = t at *
  go_enter Tryd.func22, Tryd.ntmps22
  go_wp2_with fail
  exact bodyPost_ret (v := .tuple #[.agg #[wv x2, wv x4], .bool t]) (by simp [results, Tryd.results22, go_sem]) rfl ⟨rfl, by go_grown⟩

theorem psub_eq (N M : Nat) (hN : N < P128) (hM : M < P128) : pHi ((N + P128 - M) % P128) = subLo (pHi N) (pHi M) (subHi (pLo N) (pLo M) 0) ∧ pLo ((N + P128 - M) % P128) = subLo (pLo N) (pLo M) 0 ∧
    decide (N < M) = ((subHi (pHi N) (pHi M) (subHi (pLo N) (pLo M) 0) : Int) == 1) := by
  refine ⟨?_, ?_, ?_⟩
  · unfold subLo subHi pHi pLo P128 W64 at *
    split <;> omega
  · unfold subLo pLo P128 W64 at *
    omega
  · rw [Bool.eq_iff_iff, decide_eq_true_iff, beq_iff_eq]
    unfold subHi pHi pLo P128 W64 at *
    split <;> split <;> omega
theorem sub_pair (N M : Nat) (hN : N < P128) (hM : M < P128) (w : World) :
    Calls Tryd.prog 23 #[pv N, pv M] w fun e w' => e = .returned (.tuple #[pv ((N + P128 - M) % P128), .bool (decide (N < M))]) ∧ Below w.heap.size w w' := by
  obtain ⟨e1, e2, e3⟩ := psub_eq N M hN hM
  unfold pv
  rw [e1, e2, e3]
  clear e1 e2 e3
  have hc : subHi (pLo N) (pLo M) 0 ≤ 1 := subHi_le _ _ _
  have c0 := fun W => call_sub0 (pLo N) (pLo M) W
  have c1 := fun W => call_sub (pHi N) (pHi M) (subHi (pLo N) (pLo M) 0) hc W
  generalize subHi (pHi N) (pHi M) (subHi (pLo N) (pLo M) 0) = x1 at *
  generalize subLo (pHi N) (pHi M) (subHi (pLo N) (pLo M) 0) = x2 at *
  generalize subHi (pLo N) (pLo M) 0 = x3 at *
  generalize subLo (pLo N) (pLo M) 0 = x4 at *
  generalize pHi N = a1 at *
  generalize pLo N = a0 at *
  generalize pHi M = b1 at *
  generalize pLo M = b0 at *
  generalize ht : ((x1 : Int) == 1) = t at *
  go_enter Tryd.func23, Tryd.ntmps23
  go_wp2_with fail
  exact bodyPost_ret (v := .tuple #[.agg #[wv x2, wv x4], .bool t]) (by simp [results, Tryd.results23, go_sem]) rfl ⟨rfl, by go_grown⟩

theorem len_pair (N : Nat) (hN : N < P128) (w : World) :
    Calls Tryd.prog 34 #[pv N] w fun e w' => e = .returned (.int .i64 (blen N : Nat)) ∧ Below w.heap.size w w' := by
  unfold pv
  have h1 := pHi_lt hN
  have h0 := pLo_lt N
  have HE := Lib.hid (p_eq N)
  have H1 := Lib.hid (fun W => len64 (pHi N) h1 W)
  have H0 := Lib.hid (fun W => len64 (pLo N) h0 W)
  have b1 := blen_le64 h1
  by_cases hz : pHi N = 0
  · have hb : blen N = blen (pLo N) := by
      have h2 := HE.out
      rw [hz, Nat.mul_zero, Nat.zero_add] at h2
      rw [h2]
    rw [hb]
    have t1 : decide ((0 : Int) < pHi N) = false := by simp; omega
    have t1' : decide (0 < pHi N) = false := by simp; omega
    clear hz h1 h0 hb
    generalize pHi N = a at *
    generalize pLo N = b at *
    go_enter Tryd.func34, Tryd.ntmps34
    go_wp2_with fail
    refine (H0.out _).mono ?_
    rintro e w' ⟨rfl, rfl⟩
    go_wp2_with fail
    go_ret
    exact ⟨rfl, by go_grown⟩
  · have hb : blen N = 64 + blen (pHi N) := by
      have h2 := blen_div N 64
      have h3 : N / 2 ^ 64 = pHi N := rfl
      rw [h3] at h2
      have := blen_pos hz
      omega
    rw [hb]
    have t1 : decide ((0 : Int) < pHi N) = true := by simp; omega
    have t1' : decide (0 < pHi N) = true := by simp; omega
    clear hz h1 h0 hb
    generalize pHi N = a at *
    generalize pLo N = b at *
    go_enter Tryd.func34, Tryd.ntmps34
    go_wp2_with fail
    refine (H1.out _).mono ?_
    rintro e w' ⟨rfl, rfl⟩
    go_wp2_with fail
    go_ret
    exact ⟨by congr 2, by go_grown⟩
end Go.Proofs.YtnghcpgdfkchdaaDoor
