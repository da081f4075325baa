/- Numbers of 128 bits: the contracts of package wide's division and comparison of pairs; the comparison of natural numbers. -/
import Derived.Test.YtnghcpgdfkchdaaDoorPairB
import Derived.Test.YtnghcpgdfkchdaaDoorNatC
import Derived.Deep.QuietTactic
import Derived.BigQuiet
namespace Go.Proofs.YtnghcpgdfkchdaaDoor
open Go.RowKit
set_option linter.unusedSimpArgs false
set_option linter.unusedVariables false

theorem pdiv_eq (N d : Nat) (hd : 0 < d) (hd' : d < W64) : pHi (N / d) = pHi N / d ∧ pLo (N / d) = ((pHi N % d) * W64 + pLo N) / d ∧ N % d = ((pHi N % d) * W64 + pLo N) % d := by
  have hW0 : 0 < W64 := by unfold W64; omega
  have h := p_eq N
  have e1 := Nat.div_add_mod (pHi N) d
  have e2 : N = d * (W64 * (pHi N / d)) + ((pHi N % d) * W64 + pLo N) := by
    rw [Nat.mul_left_comm, Nat.mul_comm (pHi N % d), ← Nat.add_assoc, ← Nat.mul_add, e1, h]
  have hm := Nat.mod_lt (pHi N) hd
  have hq : ((pHi N % d) * W64 + pLo N) / d < W64 := by
    rw [Nat.div_lt_iff_lt_mul hd, Nat.mul_comm W64]
    have h1 : (pHi N % d + 1) * W64 ≤ d * W64 := Nat.mul_le_mul_right _ hm
    rw [Nat.add_mul, Nat.one_mul] at h1
    have := pLo_lt N
    omega
  have e3 : N / d = W64 * (pHi N / d) + ((pHi N % d) * W64 + pLo N) / d := by
    have : N / d = (d * (W64 * (pHi N / d)) + ((pHi N % d) * W64 + pLo N)) / d := by rw [← e2]
    rw [this, Nat.mul_add_div hd]
  have e4 : N % d = ((pHi N % d) * W64 + pLo N) % d := by
    have : N % d = (d * (W64 * (pHi N / d)) + ((pHi N % d) * W64 + pLo N)) % d := by rw [← e2]
    rw [this, Nat.mul_add_mod]
  rw [e3, pHi_mk hq, pLo_mk hq]
  exact ⟨rfl, rfl, e4⟩

set_option maxRecDepth 100000 in
theorem div_pair (N d : Nat) (hN : N < P128) (hd : 0 < d) (hd' : d < W64) (w : World) :
    Calls Tryd.prog 12 #[pv N, wv d] w fun e w' => e = .returned (.tuple #[pv (N / d), wv (N % d), .nilIface]) ∧ Below w.heap.size w w' := by
  obtain ⟨e1, e2, e3⟩ := pdiv_eq N d hd hd'
  have HD := Lib.hid (fun W => div64 (pHi N % d) (pLo N) d (Nat.mod_lt _ hd) (pLo_lt N) hd' W)
  unfold pv
  rw [e1, e2, e3]
  have t1 : ((d : Int) == 0) = false := by simp; omega
  have t2 : ¬ ((d : Int) = 0) := by omega
  have hq : IntKind.u64.wrap ((pHi N : Int) / (d : Int)) = ((pHi N / d : Nat) : Int) := by
    rw [← Int.natCast_ediv]; exact wrapN _ (Nat.lt_of_le_of_lt (Nat.div_le_self _ _) (pHi_lt hN))
  have hr : (pHi N : Int).tmod (d : Int) = ((pHi N % d : Nat) : Int) := by
    rw [Int.tmod_eq_emod_of_nonneg (by omega), ← Int.natCast_emod]
  clear e1 e2 e3
  generalize ((pHi N % d) * W64 + pLo N) / d = x at *
  generalize ((pHi N % d) * W64 + pLo N) % d = y at *
  generalize pHi N / d = q at *
  generalize pHi N % d = r at *
  generalize pHi N = a at *
  generalize pLo N = b at *
  go_enter Tryd.func12, Tryd.ntmps12
  go_wp2_with fail
  go_quiet (fail)
  go_wp2_with fail
  refine (HD.out _).mono ?_
  rintro e w1 ⟨rfl, hb1⟩
  have HB := Lib.hid (keepb (below_drewN (show Below w.heap.size w ((w.alloc (.cells #[wv a, wv b] 24)).alloc (.cells #[wv 0, wv 0] 24)) by go_grown) nq) hb1)
  have HBK : Hid (Blk w1 (w.heap.size + 1) 24 #[wv 0, wv 0]) := (by have := Blk.new (w.alloc (.cells #[wv a, wv b] 24)) 24 #[wv 0, wv 0]; simp only [World.size_alloc] at this; exact (this.drewN nq).below hb1 (by simp))
  have c0 := HBK.out.cell 0
  have c1 := HBK.out.cell 1
  have f0 := HBK.out.frozen 0
  have f1 := HBK.out.frozen 1
  simp at c0 c1
  clear hb1
  go_wp2_with fail
  have hb2 := (HBK.out.set1 0 (wv q)).set1 1 (wv x)
  have p0 := hb2.cell 0
  have p1 := hb2.cell 1
  simp at p0 p1
  exact bodyPost_ret (v := .tuple #[.agg #[wv q, wv x], wv y, .nilIface]) (by simp [results, Tryd.results12, go_sem, p0, p1]) rfl ⟨rfl, (HB.out.setCell (by simp) _).setCell (by simp) _⟩

/-- How two numbers stand. -/
def cmpI (N M : Nat) : Int := if N = M then 0 else if N < M then -1 else 1
theorem pcmp (N M : Nat) (hN : N < P128) (hM : M < P128) : (N = M ↔ pHi N = pHi M ∧ pLo N = pLo M) ∧ (N < M ↔ pHi N < pHi M ∨ pHi N = pHi M ∧ pLo N < pLo M) := by
  unfold pHi pLo P128 W64 at *
  constructor <;> constructor <;> intro h <;> omega

set_option maxRecDepth 100000 in
theorem cmp_pair (N M : Nat) (hN : N < P128) (hM : M < P128) (w : World) :
    Calls Tryd.prog 24 #[pv N, pv M] w fun e w' => e = .returned (.int .i64 (cmpI N M)) ∧ Below w.heap.size w w' := by
  obtain ⟨h1, h2⟩ := pcmp N M hN hM
  unfold pv
  by_cases he : N = M
  · have hc : cmpI N M = 0 := by unfold cmpI; rw [if_pos he]
    rw [hc]
    obtain ⟨ea, eb⟩ := h1.1 he
    rw [ea, eb]
    clear h1 h2 he hc ea eb
    generalize pHi M = a at *
    generalize pLo M = b at *
    go_enter Tryd.func24, Tryd.ntmps24
    go_wp2_with fail
    go_ret
    exact ⟨rfl, by go_grown⟩
  · have hor : (pHi N = pHi M) = False ∨ ((pHi N = pHi M) = True ∧ (pLo N = pLo M) = False) := by
      by_cases h : pHi N = pHi M
      · right
        refine ⟨eq_true h, eq_false fun h3 => he (h1.2 ⟨h, h3⟩)⟩
      · left; exact eq_false h
    by_cases hl : N < M
    · have hc : cmpI N M = -1 := by unfold cmpI; rw [if_neg he, if_pos hl]
      rw [hc]
      have hw := h2.1 hl
      clear h1 h2 he hc hl
      generalize pHi N = a1 at *
      generalize pLo N = a0 at *
      generalize pHi M = b1 at *
      generalize pLo M = b0 at *
      rcases hw with hw | ⟨hw, hw2⟩
      · have t1 : decide (a1 < b1) = true := by simpa using hw
        have t2 : ((a1 : Int) == (b1 : Int)) = false := by rw [beq_eq_false_iff_ne]; omega
        have t3 : ¬ (a1 = b1) := by omega
        clear hor
        go_enter Tryd.func24, Tryd.ntmps24
        go_wp2_with fail
        go_ret
        exact ⟨rfl, by go_grown⟩
      · subst hw
        have t1 : decide (a1 < a1) = false := by simp
        have t2 : decide (a0 < b0) = true := by simpa using hw2
        have t3 : ((a0 : Int) == (b0 : Int)) = false := by rw [beq_eq_false_iff_ne]; omega
        have t4 : ¬ (a0 = b0) := by omega
        clear hor
        go_enter Tryd.func24, Tryd.ntmps24
        go_wp2_with fail
        go_ret
        exact ⟨rfl, by go_grown⟩
    · have hc : cmpI N M = 1 := by unfold cmpI; rw [if_neg he, if_neg hl]
      rw [hc]
      have hw : pHi M < pHi N ∨ pHi N = pHi M ∧ pLo M < pLo N := by
        have a := fun h => hl (h2.2 h)
        have b := fun h => he (h1.2 h)
        by_cases h : pHi N = pHi M
        · right
          refine ⟨h, ?_⟩
          have a2 : ¬ pLo N < pLo M := fun h3 => a (.inr ⟨h, h3⟩)
          have b2 : ¬ pLo N = pLo M := fun h3 => b ⟨h, h3⟩
          omega
        · left
          have a2 : ¬ pHi N < pHi M := fun h3 => a (.inl h3)
          omega
      clear h1 h2 he hc hl
      generalize pHi N = a1 at *
      generalize pLo N = a0 at *
      generalize pHi M = b1 at *
      generalize pLo M = b0 at *
      rcases hw with hw | ⟨hw, hw2⟩
      · have t1 : decide (a1 < b1) = false := by simp; omega
        have t2 : ((a1 : Int) == (b1 : Int)) = false := by rw [beq_eq_false_iff_ne]; omega
        have t3 : ¬ (a1 = b1) := by omega
        clear hor
        go_enter Tryd.func24, Tryd.ntmps24
        go_wp2_with fail
        go_ret
        exact ⟨rfl, by go_grown⟩
      · subst hw
        have t1 : decide (a1 < a1) = false := by simp
        have t2 : decide (a0 < b0) = false := by simp; omega
        have t3 : ((a0 : Int) == (b0 : Int)) = false := by rw [beq_eq_false_iff_ne]; omega
        have t4 : ¬ (a0 = b0) := by omega
        clear hor
        go_enter Tryd.func24, Tryd.ntmps24
        go_wp2_with fail
        go_ret
        exact ⟨rfl, by go_grown⟩
end Go.Proofs.YtnghcpgdfkchdaaDoor
