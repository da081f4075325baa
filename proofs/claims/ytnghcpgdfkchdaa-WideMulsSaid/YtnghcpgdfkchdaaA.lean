/- The product of two words: package wide's and the reference's. -/
import Derived.Test.YtnghcpgdfkchdaaRows
import Derived.WalkKit
import Derived.WalkLawsBesides
import Derived.WalkSpells
import Derived.Lib.Hide
import Derived.Lib.Mul64
import Derived.Handy
import Derived.Deep.RegionHeld3
import Derived.Deep.DeepMust
import Derived.Deep.DrawnRows
namespace Go.Proofs.Ytnghcpgdfkchdaa
open Go.RowKit
set_option linter.unusedSimpArgs false
set_option linter.unusedVariables false

theorem bcell {W w1 : World} (hb : Below W.heap.size W w1) : (∀ b o, b < W.heap.size → w1.cell? ⟨b, o, none⟩ = W.cell? ⟨b, o, none⟩) ∧ (∀ b o, b < W.heap.size → w1.frozen? ⟨b, o, none⟩ = W.frozen? ⟨b, o, none⟩) :=
  ⟨fun b o h => hb.cell (p := ⟨b, o, none⟩) h, fun b o h => hb.frozen (p := ⟨b, o, none⟩) h⟩

theorem keepc {W w1 : World} {b o : Nat} {v : Value} (hx : Below W.heap.size W w1) (hz : b < W.heap.size) (hc : W.cell? ⟨b, o, none⟩ = some v) : w1.cell? ⟨b, o, none⟩ = some v := by
  rw [hx.cell (p := ⟨b, o, none⟩) hz]; exact hc
theorem keepf {W w1 : World} {b o : Nat} (hx : Below W.heap.size W w1) (hz : b < W.heap.size) (hc : W.frozen? ⟨b, o, none⟩ = false) : w1.frozen? ⟨b, o, none⟩ = false := by
  rw [hx.frozen (p := ⟨b, o, none⟩) hz]; exact hc
theorem keepz {W w1 : World} {b : Nat} (hx : Below W.heap.size W w1) (hz : b < W.heap.size) : b < w1.heap.size := Nat.lt_of_lt_of_le hz hx.size
theorem keepb {w W w1 : World} (hb : Below w.heap.size w W) (hx : Below W.heap.size W w1) : Below w.heap.size w w1 := hb.trans (hx.mono hb.size)

theorem orN (d c : Nat) (hd : d < 4294967296) (hc : c < 4294967296) : bits .or .u64 ((d : Int) * 4294967296) (c : Int) = (d : Int) * 4294967296 + (c : Int) := by
  have e : (d : Int) * 4294967296 = ((d * 4294967296 : Nat) : Int) := by omega
  have h1 : (BitVec.ofInt 64 ((d * 4294967296 : Nat) : Int)).toNat = d * 4294967296 := by
    rw [BitVec.ofInt_natCast, BitVec.toNat_ofNat]; exact Nat.mod_eq_of_lt (by omega)
  have h2 : (BitVec.ofInt 64 (c : Int)).toNat = c := by
    rw [BitVec.ofInt_natCast, BitVec.toNat_ofNat]; exact Nat.mod_eq_of_lt (by omega)
  rw [e]
  show IntKind.u64.wrap ((BitVec.ofInt 64 ((d * 4294967296 : Nat) : Int) ||| BitVec.ofInt 64 (c : Int)).toNat : Int) = _
  rw [BitVec.toNat_or, h1, h2, IntKind.wrap_u64]
  have := Nat.two_pow_add_eq_or_of_lt (b := c) (i := 32) (by omega) d
  rw [show d * 4294967296 = 2 ^ 32 * d from by omega, ← this]
  omega

theorem maskN (a : Nat) (ha : a < 18446744073709551616) : bits .and .u64 (a : Int) 4294967295 = ((a % 4294967296 : Nat) : Int) := by
  have h := bits_and_u64_nat a 4294967295 ha (by omega)
  have e : a &&& 4294967295 = a % 4294967296 := Nat.and_two_pow_sub_one_eq_mod a 32
  rw [e] at h
  exact h
theorem divN (a : Nat) : (a : Int) / 4294967296 = ((a / 4294967296 : Nat) : Int) := by omega
theorem mulN (a b : Nat) : (a : Int) * (b : Int) = ((a * b : Nat) : Int) := (Int.natCast_mul a b).symm
theorem addN (a b : Nat) : (a : Int) + (b : Int) = ((a + b : Nat) : Int) := (Int.natCast_add a b).symm
theorem wrapN (a : Nat) (ha : a < 18446744073709551616) : IntKind.u64.wrap (a : Int) = (a : Int) := by rw [IntKind.wrap_u64]; omega
theorem wrapM (a : Nat) : IntKind.u64.wrap (a : Int) = ((a % 18446744073709551616 : Nat) : Int) := by rw [IntKind.wrap_u64]; omega

/-- The four parts of 32 bits, and the two halves, of a number: behind names, so that no walk meets the great numerals. -/
def q0 (N : Nat) : Nat := N % 4294967296
def q1 (N : Nat) : Nat := N / 4294967296 % 4294967296
def q2 (N : Nat) : Nat := N / 18446744073709551616 % 4294967296
def q3 (N : Nat) : Nat := N / 79228162514264337593543950336
def h0 (N : Nat) : Nat := N % 18446744073709551616
def h1 (N : Nat) : Nat := N / 18446744073709551616
abbrev four (N : Nat) : Value := .agg #[.int .u64 (q0 N : Int), .int .u64 (q1 N : Int), .int .u64 (q2 N : Int), .int .u64 (q3 N : Int)]
abbrev pairV (N : Nat) : Value := .agg #[.int .u64 (h1 N : Int), .int .u64 (h0 N : Int)]

theorem hi_any (a b c d : Nat) (w : World) (hc : c < 4294967296) (hd : d < 4294967296) :
    Calls Try.prog 8 #[.agg #[.int .u64 a, .int .u64 b, .int .u64 c, .int .u64 d]] w fun e w' => e = .returned (.int .u64 ((d * 4294967296 + c : Nat) : Int)) ∧ Below w.heap.size w w' := by
  have ho := orN d c hd hc
  go_enter Try.func8, Try.ntmps8
  go_wp2
  go_ret
  exact ⟨rfl, by go_grown⟩

theorem lo_any (a b c d : Nat) (w : World) (ha : a < 4294967296) (hb : b < 4294967296) :
    Calls Try.prog 9 #[.agg #[.int .u64 a, .int .u64 b, .int .u64 c, .int .u64 d]] w fun e w' => e = .returned (.int .u64 ((b * 4294967296 + a : Nat) : Int)) ∧ Below w.heap.size w w' := by
  have ho := orN b a hb ha
  go_enter Try.func9, Try.ntmps9
  go_wp2
  go_ret
  exact ⟨rfl, by go_grown⟩

theorem mul64_any (x y : Nat) (hx : x < 18446744073709551616) (hy : y < 18446744073709551616) (w : World) :
    Calls Try.prog 7 #[.int .u64 x, .int .u64 y] w fun e w' => e = .returned (.tuple #[.int .u64 ((x * y / 18446744073709551616 : Nat) : Int), .int .u64 ((x * y % 18446744073709551616 : Nat) : Int)]) ∧ w = w' := by
  obtain ⟨bd, bt, bw, hhi⟩ := Lib.mul64_hi x y hx hy
  have ba := Lib.half_mul_le (a := x / 4294967296) (b := y / 4294967296) (by omega) (by omega)
  have bb := Lib.half_mul_le (a := x / 4294967296) (b := y % 4294967296) (by omega) (by omega)
  have bc := Lib.half_mul_le (a := x % 4294967296) (b := y / 4294967296) (by omega) (by omega)
  have ba' : x / 4294967296 * (y / 4294967296) < 18446744073709551616 := by omega
  have bb' : x / 4294967296 * (y % 4294967296) < 18446744073709551616 := by omega
  have bc' : x % 4294967296 * (y / 4294967296) < 18446744073709551616 := by omega
  have bh1 : x / 4294967296 * (y / 4294967296) + (x / 4294967296 * (y % 4294967296) + x % 4294967296 * (y % 4294967296) / 4294967296) / 4294967296 < 18446744073709551616 := by omega
  have bh : x / 4294967296 * (y / 4294967296) + (x / 4294967296 * (y % 4294967296) + x % 4294967296 * (y % 4294967296) / 4294967296) / 4294967296 + ((x / 4294967296 * (y % 4294967296) + x % 4294967296 * (y % 4294967296) / 4294967296) % 4294967296 + x % 4294967296 * (y / 4294967296)) / 4294967296 < 18446744073709551616 := by omega
  go_enter Try.func7, Try.ntmps7
  go_wp2
  simp only [maskN x hx, maskN y hy, divN, mulN, addN, wrapN _ bd, wrapN _ bb', wrapN _ bt, maskN _ bt, wrapN _ bc', wrapN _ bw, wrapN _ ba', wrapN _ bh1, wrapN _ bh, wrapM (x * y)]
  rw [hhi]
  go_ret2
  exact ⟨rfl, rfl⟩

theorem mulW_any (x y : Nat) (hx : x < 18446744073709551616) (hy : y < 18446744073709551616) (w : World) :
    Calls Try.prog 4 #[.int .u64 x, .int .u64 y] w fun e w' => e = .returned (pairV (x * y)) ∧ Below w.heap.size w w' := by
  unfold pairV h0 h1
  go_enter Try.func4, Try.ntmps4
  go_wp2_with (go_at_call 7; refine (mul64_any x y hx hy _).mono ?_; rintro e w' ⟨rfl, rfl⟩)
  simp [bodyPost, results, Try.results4, go_sem]
  go_grown

theorem four_add (x y z v : Nat) (hx : x < 4294967296) (hy : y < 4294967296) (hz : z < 4294967296) (N : Nat) (hN : N = x + 4294967296 * (y + 4294967296 * (z + 4294967296 * v))) :
    q0 N = x ∧ q1 N = y ∧ q2 N = z ∧ q3 N = v := by
  unfold q0 q1 q2 q3
  omega

/-- The arithmetic of the reference's Mul. -/
theorem refmul (x y : Nat) (hx : x < 18446744073709551616) (hy : y < 18446744073709551616) (p q r s : Nat)
    (hp : p = x % 4294967296 * (y % 4294967296)) (hq : q = x % 4294967296 * (y / 4294967296) + p / 4294967296) (hr : r = x / 4294967296 * (y % 4294967296) + q % 4294967296)
    (hs : s = x / 4294967296 * (y / 4294967296) + q / 4294967296 + r / 4294967296) :
    p < 18446744073709551616 ∧ q < 18446744073709551616 ∧ r < 18446744073709551616 ∧ s < 18446744073709551616 ∧ x / 4294967296 * (y / 4294967296) + q / 4294967296 < 18446744073709551616 ∧
    four (x * y) = .agg #[.int .u64 ((p % 4294967296 : Nat) : Int), .int .u64 ((r % 4294967296 : Nat) : Int), .int .u64 ((s % 4294967296 : Nat) : Int), .int .u64 ((s / 4294967296 : Nat) : Int)] := by
  have e : x * y = (x / 4294967296) * (y / 4294967296) * (4294967296 * 4294967296) + ((x / 4294967296) * (y % 4294967296) + (x % 4294967296) * (y / 4294967296)) * 4294967296 + (x % 4294967296) * (y % 4294967296) := by
    rw [← Lib.split_mul, Nat.div_add_mod' x 4294967296, Nat.div_add_mod' y 4294967296]
  have ha := Lib.half_mul_le (a := x / 4294967296) (b := y / 4294967296) (by omega) (by omega)
  have hb := Lib.half_mul_le (a := x / 4294967296) (b := y % 4294967296) (by omega) (by omega)
  have hc := Lib.half_mul_le (a := x % 4294967296) (b := y / 4294967296) (by omega) (by omega)
  have hd := Lib.half_mul_le (a := x % 4294967296) (b := y % 4294967296) (by omega) (by omega)
  generalize (x / 4294967296) * (y / 4294967296) = a at *
  generalize (x / 4294967296) * (y % 4294967296) = b at *
  generalize (x % 4294967296) * (y / 4294967296) = c at *
  generalize (x % 4294967296) * (y % 4294967296) = d at *
  have hsb : s < 18446744073709551616 := by omega
  have hN : x * y = p % 4294967296 + 4294967296 * (r % 4294967296 + 4294967296 * (s % 4294967296 + 4294967296 * (s / 4294967296))) := by omega
  obtain ⟨h1, h2, h3, h4⟩ := four_add _ _ _ _ (by omega) (by omega) (by omega) _ hN
  refine ⟨by omega, by omega, by omega, hsb, by omega, ?_⟩
  show Value.agg _ = _
  rw [h1, h2, h3, h4]

set_option maxHeartbeats 1000000 in
theorem mulR_any (x y : Nat) (hx : x < 18446744073709551616) (hy : y < 18446744073709551616) (w : World) :
    Calls Try.prog 6 #[.int .u64 x, .int .u64 y] w fun e w' => e = .returned (four (x * y)) ∧ Below w.heap.size w w' := by
  obtain ⟨bp, bq, br, bs, bs1, hN⟩ := refmul x y hx hy _ _ _ _ rfl rfl rfl rfl
  have ba := Lib.half_mul_le (a := x / 4294967296) (b := y / 4294967296) (by omega) (by omega)
  have bb := Lib.half_mul_le (a := x / 4294967296) (b := y % 4294967296) (by omega) (by omega)
  have bc := Lib.half_mul_le (a := x % 4294967296) (b := y / 4294967296) (by omega) (by omega)
  have ba' : x / 4294967296 * (y / 4294967296) < 18446744073709551616 := by omega
  have bb' : x / 4294967296 * (y % 4294967296) < 18446744073709551616 := by omega
  have bc' : x % 4294967296 * (y / 4294967296) < 18446744073709551616 := by omega
  rw [hN]
  clear hN
  go_enter Try.func6, Try.ntmps6
  go_wp2
  simp only [maskN x hx, maskN y hy, divN, mulN, addN, wrapN _ ba', wrapN _ bb', wrapN _ bc', wrapN _ bp, maskN _ bp, wrapN _ bq, maskN _ bq, wrapN _ br, maskN _ br, wrapN _ bs1, wrapN _ bs, maskN _ bs]
  simp [bodyPost, results, Try.results6, go_sem]
  go_grown

attribute [local go_sem ↓] Go.wp_at_zero Go.wp_at_succ

set_option maxHeartbeats 2000000 in
theorem pair_abcd (a b c d : Nat) (ha : a < 4294967296) (hb : b < 4294967296) (hc : c < 4294967296) (hd : d < 4294967296) (w : World) :
    Calls Try.prog 5 #[.agg #[.int .u64 a, .int .u64 b, .int .u64 c, .int .u64 d]] w fun e w' =>
      e = .returned (.agg #[.int .u64 ((d * 4294967296 + c : Nat) : Int), .int .u64 ((b * 4294967296 + a : Nat) : Int)]) ∧ Below w.heap.size w w' := by
  go_enter Try.func5, Try.ntmps5
  go_wp2
  generalize hW : (w.alloc (.cells _ 28)).alloc (.cells _ 24) = W
  have c0 : W.cell? ⟨w.heap.size, 0, none⟩ = some (.int .u64 a) := by rw [← hW]; simp
  have c1 : W.cell? ⟨w.heap.size, 1, none⟩ = some (.int .u64 b) := by rw [← hW]; simp
  have c2 : W.cell? ⟨w.heap.size, 2, none⟩ = some (.int .u64 c) := by rw [← hW]; simp
  have c3 : W.cell? ⟨w.heap.size, 3, none⟩ = some (.int .u64 d) := by rw [← hW]; simp
  have c4 : W.cell? ⟨w.heap.size + 1, 0, none⟩ = some (.int .u64 0) := by rw [← hW]; simp
  have c5 : W.cell? ⟨w.heap.size + 1, 1, none⟩ = some (.int .u64 0) := by rw [← hW]; simp
  have f4 : ∀ o, W.frozen? ⟨w.heap.size + 1, o, none⟩ = false := by intro o; rw [← hW]; simp
  have z : w.heap.size + 1 < W.heap.size := by rw [← hW]; simp
  have hb0 : Below w.heap.size w W := by rw [← hW]; go_grown
  have f5 := f4 1
  have f4 := f4 0
  have z0 : w.heap.size < W.heap.size := by omega
  clear hW
  go_region_with (first
      | (go_at_call 8; go_must (refine (hi_any a b c d _ hc hd).mono ?_; rintro e w' ⟨rfl, hx⟩; have c0 := keepc hx z0 c0; have c1 := keepc hx z0 c1; have c2 := keepc hx z0 c2; have c3 := keepc hx z0 c3; have c4 := keepc hx z c4; have c5 := keepc hx z c5; have f4 := keepf hx z f4; have f5 := keepf hx z f5; have z := keepz hx z; have z0 := keepz hx z0; have hb0 : Below w.heap.size w w' := (by first | exact keepb hb0 hx | exact keepb hb0.drew hx); clear hx))
      | (go_at_call 9; go_must (refine (lo_any a b c d _ ha hb).mono ?_; rintro e w' ⟨rfl, hx⟩; have c0 := keepc hx z0 c0; have c1 := keepc hx z0 c1; have c2 := keepc hx z0 c2; have c3 := keepc hx z0 c3; have c4 := keepc hx z c4; have c5 := keepc hx z c5; have f4 := keepf hx z f4; have f5 := keepf hx z f5; have z := keepz hx z; have z0 := keepz hx z0; have hb0 : Below w.heap.size w w' := (by first | exact keepb hb0 hx | exact keepb hb0.drew hx); clear hx)))
  all_goals
    go_wp2
    refine bodyPost_ret (v := .agg #[.int .u64 ((d * 4294967296 + c : Nat) : Int), .int .u64 ((b * 4294967296 + a : Nat) : Int)]) (by simp [results, Try.results5, go_sem, c4, c5, f4, f5]) rfl ⟨rfl, ?_⟩
    exact (hb0.setCell (by simp) _).setCell (by simp) _

theorem pair_parts (N : Nat) (hN : q3 N < 4294967296) : q0 N < 4294967296 ∧ q1 N < 4294967296 ∧ q2 N < 4294967296 ∧ q3 N * 4294967296 + q2 N = h1 N ∧ q1 N * 4294967296 + q0 N = h0 N := by
  unfold q0 q1 q2 q3 h0 h1 at *
  omega

theorem pair_four (N : Nat) (hN : q3 N < 4294967296) (w : World) :
    Calls Try.prog 5 #[four N] w fun e w' => e = .returned (pairV N) ∧ Below w.heap.size w w' := by
  obtain ⟨g0, g1, g2, e1, e2⟩ := pair_parts N hN
  have h := pair_abcd (q0 N) (q1 N) (q2 N) (q3 N) g0 g1 g2 hN w
  rw [e1, e2] at h
  exact h

theorem prod_parts (x y : Nat) (hx : x < 18446744073709551616) (hy : y < 18446744073709551616) : q3 (x * y) < 4294967296 := by
  have := Nat.mul_le_mul (Nat.le_of_lt_succ hx) (Nat.le_of_lt_succ hy)
  unfold q3
  omega

theorem mulW_35 (w : World) :
    Calls Try.prog 4 #[.int .u64 3, .int .u64 5] w fun e w' => e = .returned (.agg #[.int .u64 0, .int .u64 15]) ∧ Below w.heap.size w w' := by
  have h := mulW_any 3 5 (by omega) (by omega) w
  have e1 : ((h1 (3 * 5) : Nat) : Int) = 0 := by decide
  have e0 : ((h0 (3 * 5) : Nat) : Int) = 15 := by decide
  unfold pairV at h
  rw [e1, e0] at h
  exact h

#print axioms pair_four
end Go.Proofs.Ytnghcpgdfkchdaa
