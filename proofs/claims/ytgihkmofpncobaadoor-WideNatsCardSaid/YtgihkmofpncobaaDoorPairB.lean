/- Numbers of 128 bits: the contracts of package wide's pairs. Numbers of 128 bits: the contracts of package wide's shifts, comparison, division of pairs. -/
import Derived.Test.YtgihkmofpncobaaDoorDiv
import Derived.Test.YtgihkmofpncobaaDoorTyped
namespace Go.Proofs.YtgihkmofpncobaaDoor
open Go.RowKit
set_option linter.unusedSimpArgs false
set_option linter.unusedVariables false

/-- Two to the power 128. -/
def P128 : Nat := W64 * W64
def pHi (N : Nat) : Nat := N / W64
def pLo (N : Nat) : Nat := N % W64
/-- A number of 128 bits as a value of the program. -/
def pv (N : Nat) : Value := .agg #[wv (pHi N), wv (pLo N)]
theorem pHi_lt {N : Nat} (h : N < P128) : pHi N < W64 := by unfold pHi P128 at *; exact Nat.div_lt_of_lt_mul h
theorem pLo_lt (N : Nat) : pLo N < W64 := Nat.mod_lt _ (by unfold W64; omega)
theorem p_eq (N : Nat) : W64 * pHi N + pLo N = N := Nat.div_add_mod _ _
theorem pHi_mk {h l : Nat} (hl : l < W64) : pHi (W64 * h + l) = h := by
  unfold pHi
  rw [Nat.mul_add_div (by unfold W64; omega), Nat.div_eq_of_lt hl, Nat.add_zero]
theorem pLo_mk {h l : Nat} (hl : l < W64) : pLo (W64 * h + l) = l := by
  unfold pLo
  rw [Nat.mul_add_mod, Nat.mod_eq_of_lt hl]
theorem p_lt {h l : Nat} (hh : h < W64) (hl : l < W64) : W64 * h + l < P128 := by unfold P128 W64 at *; omega

theorem mul_pair (x y : Nat) (hx : x < W64) (hy : y < W64) (w : World) :
    Calls Tryd.prog 12 #[wv x, wv y] w fun e w' => e = .returned (pv (x * y)) ∧ Below w.heap.size w w' := by
  have HM := Lib.hid (fun W => mul64 x y hx hy W)
  unfold pv pHi pLo
  generalize x * y / W64 = h at *
  generalize x * y % W64 = l at *
  go_enter Tryd.func12, Tryd.ntmps12
  go_wp2_with fail
  refine (HM.out _).mono ?_
  rintro e w' ⟨rfl, rfl⟩
  go_wp2_with fail
  exact bodyPost_ret (v := .agg #[wv h, wv l]) (by simp [results, Tryd.results12, go_sem]) rfl ⟨rfl, by go_grown⟩

theorem padd_eq (N M : Nat) (hN : N < P128) (hM : M < P128) : pHi ((N + M) % P128) = addLo (pHi N) (pHi M) (addHi (pLo N) (pLo M) 0) ∧ pLo ((N + M) % P128) = addLo (pLo N) (pLo M) 0 ∧
    decide (P128 ≤ N + M) = ((addHi (pHi N) (pHi M) (addHi (pLo N) (pLo M) 0) : Int) == 1) := by
  refine ⟨by unfold pHi pLo addLo addHi P128 W64 at *; omega, by unfold pLo addLo P128 W64 at *; omega, ?_⟩
  rw [Bool.eq_iff_iff, decide_eq_true_iff, beq_iff_eq]
  unfold pHi pLo addHi P128 W64 at *
  omega
theorem psub_eq (N M : Nat) (hN : N < P128) (hM : M < P128) : pHi ((N + P128 - M) % P128) = subLo (pHi N) (pHi M) (subHi (pLo N) (pLo M) 0) ∧ pLo ((N + P128 - M) % P128) = subLo (pLo N) (pLo M) 0 ∧
    decide (N < M) = ((subHi (pHi N) (pHi M) (subHi (pLo N) (pLo M) 0) : Int) == 1) := by
  refine ⟨?_, ?_, ?_⟩
  · unfold subLo subHi pHi pLo P128 W64 at *
    split <;> omega
  · unfold subLo pLo P128 W64 at *
    omega
  · rw [Bool.eq_iff_iff, decide_eq_true_iff, beq_iff_eq]
    unfold subHi pHi pLo P128 W64 at *
    split <;> split <;> omega
end Go.Proofs.YtgihkmofpncobaaDoor

namespace Go.Proofs.YtgihkmofpncobaaDoor
open Go.RowKit
set_option linter.unusedSimpArgs false
set_option linter.unusedVariables false

/-- A shift's count, cut to what is there. -/
def cutN (n : Int) : Nat := (min (max n 0) 128).toNat
theorem cutN_le (n : Int) : cutN n ≤ 128 := by unfold cutN; omega
theorem cutN_eq (n : Int) : min (max n 0) 128 = (cutN n : Int) := by unfold cutN; omega

theorem shl_hi {N k : Nat} (hN : N < P128) (hk : 64 ≤ k) (hk2 : k ≤ 128) : pHi (N * 2 ^ k % P128) = pLo N * 2 ^ (k - 64) % W64 ∧ pLo (N * 2 ^ k % P128) = 0 := by
  have e : N * 2 ^ k = W64 * (N * 2 ^ (k - 64)) := by
    rw [show k = 64 + (k - 64) by omega, Nat.pow_add, Nat.add_sub_cancel_left, ← W64_pow, ← Nat.mul_assoc, ← Nat.mul_assoc, Nat.mul_comm N]
  have hW : 0 < W64 := by unfold W64; omega
  rw [e]
  unfold pHi pLo P128
  rw [Nat.mul_mod_mul_left, Nat.mul_div_cancel_left _ hW, Nat.mul_mod_right]
  exact ⟨by rw [Nat.mod_mul_mod] , rfl⟩
theorem shl_lo {N k : Nat} (hN : N < P128) (hk : k < 64) : pHi (N * 2 ^ k % P128) = pHi N * 2 ^ k % W64 + pLo N / 2 ^ (64 - k) ∧ pLo (N * 2 ^ k % P128) = pLo N * 2 ^ k % W64 ∧ pLo N / 2 ^ (64 - k) < 2 ^ k ∧ (∃ c, pHi N * 2 ^ k % W64 = c * 2 ^ k) ∧ pHi N * 2 ^ k % W64 + pLo N / 2 ^ (64 - k) < W64 := by
  have hp : 0 < 2 ^ k := Nat.pow_pos (by omega)
  have hW : W64 = 2 ^ k * 2 ^ (64 - k) := by rw [← Nat.pow_add, show k + (64 - k) = 64 by omega]; rfl
  have hW0 : 0 < W64 := by unfold W64; omega
  have hL : pLo N / 2 ^ (64 - k) < 2 ^ k := by
    rw [Nat.div_lt_iff_lt_mul (Nat.pow_pos (by omega)), ← hW]; exact pLo_lt N
  have hc : ∃ c, pHi N * 2 ^ k % W64 = c * 2 ^ k := ⟨pHi N % 2 ^ (64 - k), by rw [hW, Nat.mul_comm (2 ^ k), Nat.mul_mod_mul_right]⟩
  have hs : pHi N * 2 ^ k % W64 + pLo N / 2 ^ (64 - k) < W64 := by
    obtain ⟨c, hc⟩ := hc
    have h1 := Nat.mod_lt (pHi N * 2 ^ k) hW0
    rw [hc] at h1 ⊢
    rw [hW, Nat.mul_comm (2 ^ k)] at h1 ⊢
    have h2 : c < 2 ^ (64 - k) := Nat.lt_of_mul_lt_mul_right h1
    have h3 : (c + 1) * 2 ^ k ≤ 2 ^ (64 - k) * 2 ^ k := Nat.mul_le_mul_right _ h2
    rw [Nat.add_mul, Nat.one_mul] at h3
    omega
  have e1 : pLo N * 2 ^ k / W64 = pLo N / 2 ^ (64 - k) := by rw [hW, Nat.mul_comm, Nat.mul_div_mul_left _ _ hp]
  have e2 := Nat.div_add_mod (pLo N * 2 ^ k) W64
  rw [e1] at e2
  have e3 : N * 2 ^ k = W64 * (pHi N * 2 ^ k + pLo N / 2 ^ (64 - k)) + pLo N * 2 ^ k % W64 := by
    have h := p_eq N
    rw [Nat.mul_add, Nat.add_assoc, e2]
    have h2 : N * 2 ^ k = (W64 * pHi N + pLo N) * 2 ^ k := by rw [h]
    rw [h2, Nat.add_mul, Nat.mul_assoc]
  have e4 : N * 2 ^ k % P128 = W64 * (pHi N * 2 ^ k % W64 + pLo N / 2 ^ (64 - k)) + pLo N * 2 ^ k % W64 := by
    have h1 := Nat.div_add_mod (pHi N * 2 ^ k) W64
    have h2 : N * 2 ^ k = P128 * (pHi N * 2 ^ k / W64) + (W64 * (pHi N * 2 ^ k % W64 + pLo N / 2 ^ (64 - k)) + pLo N * 2 ^ k % W64) := by
      rw [e3, ← Nat.add_assoc]
      congr 1
      have h3 : pHi N * 2 ^ k + pLo N / 2 ^ (64 - k) = W64 * (pHi N * 2 ^ k / W64) + (pHi N * 2 ^ k % W64 + pLo N / 2 ^ (64 - k)) := by omega
      rw [h3, Nat.mul_add W64 (W64 * _), ← Nat.mul_assoc]
      rfl
    rw [h2, Nat.mul_add_mod, Nat.mod_eq_of_lt (p_lt hs (Nat.mod_lt _ hW0))]
  rw [e4, pHi_mk (Nat.mod_lt _ hW0), pLo_mk (Nat.mod_lt _ hW0)]
  exact ⟨rfl, rfl, hL, hc, hs⟩

set_option maxRecDepth 100000 in
theorem shl_pair (N : Nat) (n : Int) (hN : N < P128) (w : World) :
    Calls Tryd.prog 59 #[pv N, .int .i64 n] w fun e w' => e = .returned (pv (N * 2 ^ cutN n % P128)) ∧ Below w.heap.size w w' := by
  have hk2 := cutN_le n
  have hcut := cutN_eq n
  generalize cutN n = k at *
  unfold pv
  by_cases hk : 64 ≤ k
  · obtain ⟨e1, e2⟩ := shl_hi hN hk hk2
    rw [e1, e2]
    have t1 : decide ((64 : Int) ≤ k) = true := by simp; omega
    have t1' : decide (64 ≤ k) = true := by simp; omega
    have hs := shl_w (pLo N) (k - 64)
    have hki : (64 : Int) ≤ k := by omega
    have hkm : ((k : Int) - 64).toNat = k - 64 := by omega
    clear e1 e2
    generalize pHi N = a at *
    generalize pLo N = b at *
    generalize b * 2 ^ (k - 64) % W64 = c at *
    go_enter Tryd.func59, Tryd.ntmps59
    go_wp2_with fail
    exact bodyPost_ret (v := .agg #[wv c, wv 0]) (by simp [results, Tryd.results59, go_sem]) rfl ⟨rfl, by go_grown⟩
  · obtain ⟨e1, e2, h3, h4, h5⟩ := shl_lo hN (show k < 64 by omega)
    rw [e1, e2]
    have t1 : decide ((64 : Int) ≤ k) = false := by simp; omega
    have t1' : decide (64 ≤ k) = false := by simp; omega
    have hs1 := shl_w (pHi N) k
    have hs2 := shl_w (pLo N) k
    have hs3 := shr_w (pLo N) (64 - k)
    have ho := orN h4 h3 h5
    have hki : (k : Int) < 64 := by omega
    clear e1 e2 h3 h4 h5
    generalize pHi N = a at *
    generalize pLo N = b at *
    generalize a * 2 ^ k % W64 = c at *
    generalize b * 2 ^ k % W64 = d at *
    generalize b / 2 ^ (64 - k) = l at *
    go_enter Tryd.func59, Tryd.ntmps59
    go_wp2_with fail
    exact bodyPost_ret (v := .agg #[wv (c + l), wv d]) (by simp [results, Tryd.results59, go_sem]) rfl ⟨rfl, by go_grown⟩

theorem shr_hi {N k : Nat} (hN : N < P128) (hk : 64 ≤ k) (hk2 : k ≤ 128) : pHi (N / 2 ^ k) = 0 ∧ pLo (N / 2 ^ k) = pHi N / 2 ^ (k - 64) := by
  have e : N / 2 ^ k = pHi N / 2 ^ (k - 64) := by
    rw [show k = 64 + (k - 64) by omega, Nat.pow_add, Nat.add_sub_cancel_left, ← W64_pow, ← Nat.div_div_eq_div_mul]; rfl
  have h1 : pHi N / 2 ^ (k - 64) < W64 := Nat.lt_of_le_of_lt (Nat.div_le_self _ _) (pHi_lt hN)
  rw [e]
  exact ⟨Nat.div_eq_of_lt h1, Nat.mod_eq_of_lt h1⟩
theorem shr_lo {N k : Nat} (hN : N < P128) (hk : k < 64) : pHi (N / 2 ^ k) = pHi N / 2 ^ k ∧ pLo (N / 2 ^ k) = pHi N * 2 ^ (64 - k) % W64 + pLo N / 2 ^ k ∧ pLo N / 2 ^ k < 2 ^ (64 - k) ∧ (∃ c, pHi N * 2 ^ (64 - k) % W64 = c * 2 ^ (64 - k)) ∧ pHi N * 2 ^ (64 - k) % W64 + pLo N / 2 ^ k < W64 := by
  have hp : 0 < 2 ^ k := Nat.pow_pos (by omega)
  have hq : 0 < 2 ^ (64 - k) := Nat.pow_pos (by omega)
  have hW : W64 = 2 ^ k * 2 ^ (64 - k) := by rw [← Nat.pow_add, show k + (64 - k) = 64 by omega]; rfl
  have hW0 : 0 < W64 := by unfold W64; omega
  have hL : pLo N / 2 ^ k < 2 ^ (64 - k) := by
    rw [Nat.div_lt_iff_lt_mul hp, Nat.mul_comm, ← hW]; exact pLo_lt N
  have hcc : pHi N * 2 ^ (64 - k) % W64 = pHi N % 2 ^ k * 2 ^ (64 - k) := by rw [hW, Nat.mul_mod_mul_right]
  have hc : ∃ c, pHi N * 2 ^ (64 - k) % W64 = c * 2 ^ (64 - k) := ⟨_, hcc⟩
  have hs : pHi N * 2 ^ (64 - k) % W64 + pLo N / 2 ^ k < W64 := by
    rw [hcc]
    have h2 := Nat.mod_lt (pHi N) hp
    have h3 : (pHi N % 2 ^ k + 1) * 2 ^ (64 - k) ≤ 2 ^ k * 2 ^ (64 - k) := Nat.mul_le_mul_right _ h2
    rw [Nat.add_mul, Nat.one_mul, ← hW] at h3
    omega
  have e : N / 2 ^ k = pHi N * 2 ^ (64 - k) + pLo N / 2 ^ k := by
    have h := p_eq N
    have h2 : N / 2 ^ k = (2 ^ k * (2 ^ (64 - k) * pHi N) + pLo N) / 2 ^ k := by rw [← Nat.mul_assoc, ← hW, h]
    rw [h2, Nat.mul_add_div hp, Nat.mul_comm (2 ^ (64 - k))]
  refine ⟨?_, ?_, hL, hc, hs⟩
  · unfold pHi; rw [Nat.div_div_eq_div_mul, Nat.div_div_eq_div_mul, Nat.mul_comm]
  · unfold pLo at hs ⊢
    rw [e]
    show (_ + pLo N / 2 ^ k) % W64 = _
    rw [Nat.add_mod, Nat.mod_eq_of_lt (show pLo N / 2 ^ k < W64 from Nat.lt_of_le_of_lt (Nat.div_le_self _ _) (pLo_lt N))]
    exact Nat.mod_eq_of_lt hs
theorem orN' {H L s : Nat} (h : ∃ k, H = k * 2 ^ s) (hL : L < 2 ^ s) (hH : H + L < W64) : bits .or .u64 (L : Int) (H : Int) = ((H + L : Nat) : Int) := by
  rw [← orN h hL hH]
  show IntKind.u64.wrap ((BitVec.ofInt 64 (L : Int) ||| BitVec.ofInt 64 (H : Int)).toNat : Int) = IntKind.u64.wrap ((BitVec.ofInt 64 (H : Int) ||| BitVec.ofInt 64 (L : Int)).toNat : Int)
  rw [BitVec.or_comm]

set_option maxRecDepth 100000 in
theorem shr_pair (N : Nat) (n : Int) (hN : N < P128) (w : World) :
    Calls Tryd.prog 60 #[pv N, .int .i64 n] w fun e w' => e = .returned (pv (N / 2 ^ cutN n)) ∧ Below w.heap.size w w' := by
  have hk2 := cutN_le n
  have hcut := cutN_eq n
  generalize cutN n = k at *
  unfold pv
  by_cases hk : 64 ≤ k
  · obtain ⟨e1, e2⟩ := shr_hi hN hk hk2
    rw [e1, e2]
    have t1 : decide ((64 : Int) ≤ k) = true := by simp; omega
    have t1' : decide (64 ≤ k) = true := by simp; omega
    have hs := shr_w (pHi N) (k - 64)
    have hki : (64 : Int) ≤ k := by omega
    have hkm : ((k : Int) - 64).toNat = k - 64 := by omega
    clear e1 e2
    generalize pHi N = a at *
    generalize pLo N = b at *
    generalize a / 2 ^ (k - 64) = c at *
    go_enter Tryd.func60, Tryd.ntmps60
    go_wp2_with fail
    exact bodyPost_ret (v := .agg #[wv 0, wv c]) (by simp [results, Tryd.results60, go_sem]) rfl ⟨rfl, by go_grown⟩
  · obtain ⟨e1, e2, h3, h4, h5⟩ := shr_lo hN (show k < 64 by omega)
    rw [e1, e2]
    have t1 : decide ((64 : Int) ≤ k) = false := by simp; omega
    have t1' : decide (64 ≤ k) = false := by simp; omega
    have hs1 := shr_w (pHi N) k
    have hs2 := shr_w (pLo N) k
    have hs3 := shl_w (pHi N) (64 - k)
    have ho := orN' h4 h3 h5
    have hki : (k : Int) < 64 := by omega
    clear e1 e2 h3 h4 h5
    generalize pHi N = a at *
    generalize pLo N = b at *
    generalize a * 2 ^ (64 - k) % W64 = c at *
    generalize a / 2 ^ k = d at *
    generalize b / 2 ^ k = l at *
    go_enter Tryd.func60, Tryd.ntmps60
    go_wp2_with fail
    exact bodyPost_ret (v := .agg #[wv d, wv (c + l)]) (by simp [results, Tryd.results60, go_sem]) rfl ⟨rfl, by go_grown⟩

end Go.Proofs.YtgihkmofpncobaaDoor
