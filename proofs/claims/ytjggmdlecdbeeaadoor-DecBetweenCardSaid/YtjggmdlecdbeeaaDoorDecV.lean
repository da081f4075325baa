/- The order of finite floats. -/
import Derived.Test.YtjggmdlecdbeeaaDoorDecU
namespace Go.Proofs.YtjggmdlecdbeeaaDoor
set_option linter.unusedVariables false
set_option linter.unusedSimpArgs false

theorem f64_sign : FloatKind.f64.format.signWeight = 9223372036854775808 := by decide
theorem f64_binade : FloatKind.f64.format.binade = 4503599627370496 := by decide
theorem f64_inf : FloatKind.f64.format.infRung = 9218868437227405312 := by decide
theorem f64_least : FloatKind.f64.format.leastPlace = -1074 := by decide
theorem read_sv (x : Nat) (h1 : x < 18446744073709551616) (h2 : x % 9223372036854775808 ≤ most) :
    ∃ (s : Bool) (m : Nat) (e : Int), FloatKind.f64.format.read x = .number s m e ∧ -1074 ≤ e ∧ svI x = if s then -((m * 2 ^ (e + 1074).toNat : Nat) : Int) else ((m * 2 ^ (e + 1074).toNat : Nat) : Int) := by
  have hsv : svI x = if (x / 9223372036854775808 % 2 == 1) = true then -((Fl (x % 9223372036854775808) : Nat) : Int) else ((Fl (x % 9223372036854775808) : Nat) : Int) := by
    unfold svI
    by_cases hx : x < 9223372036854775808
    · have e : x / 9223372036854775808 = 0 := Nat.div_eq_of_lt hx
      rw [if_pos hx, e, Nat.mod_eq_of_lt hx, if_neg (by decide)]
    · have e : x / 9223372036854775808 = 1 := by omega
      have e2 : x % 9223372036854775808 = x - 9223372036854775808 := by omega
      rw [if_neg hx, e, e2, if_pos (by decide)]
  unfold Ieee.Format.read
  rw [f64_sign, f64_binade, f64_inf, f64_least]
  generalize (x / 9223372036854775808 % 2 == 1) = s at *
  have hm : x % 9223372036854775808 < 9218868437227405312 := by unfold most at h2; omega
  generalize x % 9223372036854775808 = r at *
  by_cases hr : r < 4503599627370496
  · refine ⟨s, r, -1074, ?_, by omega, ?_⟩
    · simp only [if_pos hr]
    · have hf : Fl r = r := by unfold Fl P52; rw [if_pos hr]
      rw [hsv, hf]
      simp
  · refine ⟨s, 4503599627370496 + r % 4503599627370496, -1074 + ((r / 4503599627370496 - 1 : Nat) : Int), ?_, by omega, ?_⟩
    · simp only [if_neg hr, if_pos hm]
    · have hf : Fl r = (4503599627370496 + r % 4503599627370496) * 2 ^ (r / 4503599627370496 - 1) := by unfold Fl P52; rw [if_neg hr]
      have he : (-1074 + ((r / 4503599627370496 - 1 : Nat) : Int) + 1074).toNat = r / 4503599627370496 - 1 := by omega
      rw [hsv, hf, he]
theorem cmp_int (a b : Int) : compare a b = if a < b then .lt else if a = b then .eq else .gt := rfl
theorem signed_sv {s : Bool} {m : Nat} {e base v : Int} (h1 : base ≤ e) (h2 : -1074 ≤ base) (hv : v = if s then -((m * 2 ^ (e + 1074).toNat : Nat) : Int) else ((m * 2 ^ (e + 1074).toNat : Nat) : Int)) :
    v = Ieee.signed s m (e - base).toNat * ((2 ^ (base + 1074).toNat : Nat) : Int) := by
  have hp : m * 2 ^ (e + 1074).toNat = m * 2 ^ (e - base).toNat * 2 ^ (base + 1074).toNat := by
    rw [Nat.mul_assoc, ← Nat.pow_add]
    congr 2
    omega
  unfold Ieee.signed
  rw [hv, hp, Nat.shiftLeft_eq]
  cases s
  · simp only [Bool.false_eq_true, if_false]; rw [Int.natCast_mul]
  · simp only [if_true]; rw [Int.natCast_mul, Int.neg_mul]
theorem order_sv {x y : Nat} (h1 : x < 18446744073709551616) (h2 : x % 9223372036854775808 ≤ most) (k1 : y < 18446744073709551616) (k2 : y % 9223372036854775808 ≤ most) :
    FloatKind.f64.format.order x y = some (if svI x < svI y then .lt else if svI x = svI y then .eq else .gt) := by
  obtain ⟨s, m, e, hr, he, hv⟩ := read_sv x h1 h2
  obtain ⟨t, n, f, kr, ke, kv⟩ := read_sv y k1 k2
  unfold Ieee.Format.order
  rw [hr, kr]
  show some (compare (Ieee.signed s m (e - min e f).toNat) (Ieee.signed t n (f - min e f).toNat)) = _
  have b1 : min e f ≤ e := by omega
  have b2 : min e f ≤ f := by omega
  have b3 : -1074 ≤ min e f := by omega
  generalize min e f = base at *
  rw [signed_sv b1 b3 hv, signed_sv b2 b3 kv, cmp_int]
  have hp : (0 : Int) < ((2 ^ (base + 1074).toNat : Nat) : Int) := Int.natCast_pos.2 (Nat.pow_pos (by omega))
  generalize ((2 ^ (base + 1074).toNat : Nat) : Int) = c at *
  generalize Ieee.signed s m (e - base).toNat = a
  generalize Ieee.signed t n (f - base).toNat = b
  have i1 : a * c < b * c ↔ a < b := Int.mul_lt_mul_right hp
  have i2 : a * c = b * c ↔ a = b := ⟨fun h => Int.eq_of_mul_eq_mul_right (by omega) h, fun h => by rw [h]⟩
  simp only [i1, i2]
end Go.Proofs.YtjggmdlecdbeeaaDoor
