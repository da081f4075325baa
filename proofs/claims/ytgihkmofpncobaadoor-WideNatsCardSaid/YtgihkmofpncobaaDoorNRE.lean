/- The document's natural numbers: how many bits, a bit, the number of 64 bits. -/
import Derived.Test.YtgihkmofpncobaaDoorNRD
namespace Go.Proofs.YtgihkmofpncobaaDoor
open Go.RowKit
set_option linter.unusedSimpArgs false
set_option linter.unusedVariables false

theorem WrdL.fig {w : World} {A : Option Addr} {n c x j : Nat} (h : WrdL w A n c x) (hj : j < n) : ∃ g o, A = some ⟨g, o, none⟩ ∧ w.cell? ⟨g, o + j, none⟩ = some (fv (x / B16 ^ j % B16)) := by
  obtain ⟨l, hf, rfl, hr, _⟩ := h
  obtain ⟨g, o, hA, hc⟩ := hr.cell j (by simpa using hj)
  refine ⟨g, o, hA, ?_⟩
  rw [hc, List.getElem_map, ← hf.get j]
  simp [List.getD, hj]
theorem WrdL.lt {w : World} {A : Option Addr} {n c x : Nat} (h : WrdL w A n c x) : x < B16 ^ n := by obtain ⟨l, h1, rfl, _⟩ := h; exact h1.lt
theorem WrdL.len {w : World} {A : Option Addr} {n c x : Nat} (h : WrdL w A n c x) {k : Nat} (hx : x < B16 ^ k) : n ≤ k := by obtain ⟨l, h1, rfl, _⟩ := h; exact h1.len_le (by decide) hx
theorem WrdL.ge {w : World} {A : Option Addr} {n c x q : Nat} (h : WrdL w A n c x) (hq : q + 1 = n) : B16 ^ q ≤ x := by obtain ⟨l, h1, rfl, _⟩ := h; exact h1.ge q hq
theorem WrdL.below {w w' : World} {A : Option Addr} {n c x : Nat} (h : WrdL w A n c x) (hb : Below w.heap.size w w') : WrdL w' A n c x := by
  obtain ⟨l, h1, h2, h3, h4⟩ := h
  exact ⟨l, h1, h2, h3.below hb, h4⟩
theorem b16_pow (q : Nat) : B16 ^ q = 2 ^ (16 * q) := by rw [Nat.pow_mul]; rfl
theorem b4_b16 {x N : Nat} (hx : x < B4 ^ N) : x < B16 ^ N := Nat.lt_of_lt_of_le hx (Nat.pow_le_pow_left (show B4 ≤ B16 by decide) N)
theorem blen_step {T i : Nat} (h0 : T / 2 ^ i = 0) (h : i = 0 ∨ T / 2 ^ (i - 1) ≠ 0) : blen T = i := by
  have hp : 0 < 2 ^ i := Nat.pow_pos (by decide)
  have hlt : T < 2 ^ i := by
    rcases Nat.div_eq_zero_iff.1 h0 with h | h
    · omega
    · exact h
  have h1 := blen_le.2 hlt
  rcases h with rfl | h
  · omega
  · rcases Nat.lt_or_ge (blen T) i with h2 | h2
    · exfalso
      have : T < 2 ^ (i - 1) := blen_le.1 (by omega)
      exact h (Nat.div_eq_of_lt this)
    · omega
set_option maxRecDepth 4000000 in
set_option maxHeartbeats 4000000 in
theorem rbits_nat (v : Value) (x N : Nat) (w : World) (hv : RatW w v x) (hx : x < B4 ^ N) (hN : N ≤ 10000) :
    Calls Tryd.prog 39 #[v] w fun e w' => e = .returned (.int .i64 (blen x : Nat)) ∧ Below w.heap.size w w' := by
  obtain ⟨A, n, c, rfl, hl⟩ := hv
  have HW := Lib.hid (fun W (h : RatL W A n c x) => rwords_nat _ x N W h.w hx hN)
  have HL0 := Lib.hid (hl.below (below_new w (.cells #[.slice A n c] 31)))
  have hXB := b4_b16 hx
  have HXB := Lib.hid hXB
  clear hl hx hXB
  go_enter Tryd.func39, Tryd.ntmps39
  go_wp2_with fail
  refine (HW.out _ HL0.out).mono ?_
  rintro e w1 ⟨A1, n1, c1, rfl, hwl, hb⟩
  have HB1 := Lib.hid (keepb (below_new w _) hb)
  have hlen := hwl.len HXB.out
  cases n1 with
  | zero =>
    obtain rfl : x = 0 := by have := hwl.lt; rw [Nat.pow_zero] at this; omega
    clear hwl hb HW HL0
    go_wp2_with fail
    go_ret
    exact ⟨rfl, HB1.out⟩
  | succ q =>
    obtain ⟨g, o, rfl, hc⟩ := hwl.fig (j := q) (by omega)
    have hge := hwl.ge rfl
    have hlt := hwl.lt
    have htop : x / B16 ^ q < B16 := by rw [Nat.div_lt_iff_lt_mul (Nat.pow_pos (by decide)), Nat.mul_comm, ← Nat.pow_succ]; exact hlt
    rw [Nat.mod_eq_of_lt htop] at hc
    have hbl : 16 * q + blen (x / B16 ^ q) = blen x := by
      rw [b16_pow, blen_div]
      have : 16 * q < blen x := by
        rcases Nat.lt_or_ge (16 * q) (blen x) with h | h
        · exact h
        · exfalso
          have := blen_le.1 h
          rw [← b16_pow] at this
          omega
      omega
    have HBL := Lib.hid hbl
    have hT : x / B16 ^ q < 65536 := htop
    have hqI : (q : Int) ≤ 10000 := by omega
    have e1 : ((q + 1 : Nat) : Int) - 1 = (q : Int) := by omega
    clear hwl hb hge hlt htop hbl hlen HW HL0 HXB
    obtain ⟨T, hTe⟩ : ∃ T, x / B16 ^ q = T := ⟨_, rfl⟩
    rw [hTe] at hc hT HBL
    have hT16 : T < 2 ^ 16 := by omega
    have HT := Lib.hid hT16
    have hTI : (T : Int) < 65536 := by omega
    clear hTe hT hT16
    go_wp2_with fail
    go_loop [4, 5] (fun s4 s5 => ∃ i : Nat, s4 = .int .i64 (16 * (q : Int) + (i : Int)) ∧ s5 = fv (T / 2 ^ i) ∧ i ≤ 16 ∧ (i = 0 ∨ T / 2 ^ (i - 1) ≠ 0)) (fun _ s5 => (intOf s5).toNat)
    case atStart => exact ⟨0, by simp, by rw [Nat.pow_zero, Nat.div_one], by omega, .inl rfl⟩
    case round =>
      obtain ⟨i, rfl, rfl, hi, hit⟩ := hrel
      have HIT := Lib.hid hit
      clear hit
      by_cases h0 : T / 2 ^ i = 0
      · have hv := blen_step h0 HIT.out
        have HV : Hid (16 * q + i = blen x) := Lib.hid (by rw [← hv]; exact HBL.out)
        rw [h0]
        clear h0 hv
        go_wp2_with fail
        go_ret
        exact ⟨(by show Ending.returned (Value.int .i64 (16 * (q : Int) + (i : Int))) = _; rw [← HV.out, Int.natCast_add, Int.natCast_mul]; rfl), HB1.out⟩
      · have hy : 0 < T / 2 ^ i := Nat.pos_of_ne_zero h0
        have HNE := Lib.hid (show i + 1 = 0 ∨ T / 2 ^ (i + 1 - 1) ≠ 0 from .inr (by rw [Nat.add_sub_cancel]; exact h0))
        have hi16 : i + 1 ≤ 16 := by
          rcases Nat.lt_or_ge i 16 with h | h
          · omega
          · exfalso
            refine h0 (Nat.div_eq_of_lt (Nat.lt_of_lt_of_le HT.out (Nat.pow_le_pow_right (by decide) h)))
        have HI := Lib.hid hi16
        have hdv : T / 2 ^ (i + 1) = T / 2 ^ i / 2 := by rw [Nat.pow_succ, ← Nat.div_div_eq_div_mul]
        have HDV := Lib.hid hdv
        have hyl : T / 2 ^ i ≤ T := Nat.div_le_self _ _
        have hyI : ((T / 2 ^ i : Nat) : Int) < 65536 := by omega
        generalize T / 2 ^ i = y at *
        have t1 : decide ((0 : Int) < (y : Int)) = true := decide_eq_true (by omega)
        have t1' : decide (0 < y) = true := decide_eq_true hy
        have e3 : (y : Int) / 2 = ((y / 2 : Nat) : Int) := by omega
        have e4 : Int.tdiv (y : Int) 2 = ((y / 2 : Nat) : Int) := by rw [Int.tdiv_eq_ediv_of_nonneg (by omega)]; omega
        have hiI : (i : Int) ≤ 16 := by omega
        have HY := Lib.hid (show y / 2 < y by omega)
        clear h0 hdv hyl hi16 hi
        generalize y / 2 = z at *
        go_wp2_with fail
        go_round
        case rel => exact ⟨i + 1, by first | go_num | (congr 1; omega), by rw [HDV.out], HI.out, HNE.out⟩
        case measure => have := HY.out; simp [intOf]; omega
end Go.Proofs.YtgihkmofpncobaaDoor
