/- Plain: one figure of a long division, sought from above (to the base 2^32). No program in sight. -/
import Derived.Test.YtgihkmofpncobaaDoorNum
namespace Go.Proofs.YtgihkmofpncobaaDoor

/-- What is known of a figure that is sought: the number is u * 2^32 + v, the divisor y = a * 2^32 + b. -/
structure Dg (y a b u v q r : Nat) : Prop where
  hy : y = a * 4294967296 + b
  hb : b < 4294967296
  ha : 4294967296 ≤ 2 * a
  hu : u < y
  hv : v < 4294967296
  eq : u = q * a + r
  hr : r < 4294967296
  le : (u * 4294967296 + v) / y ≤ q
  hq : q ≤ 4294967297

theorem Dg.start {y a b u v : Nat} (hy : y = a * 4294967296 + b) (hb : b < 4294967296) (ha : 4294967296 ≤ 2 * a) (ha' : a < 4294967296) (hu : u < y) (hv : v < 4294967296) : Dg y a b u v (u / a) (u % a) := by
  have ha0 : 0 < a := by omega
  have e := Nat.div_add_mod' u a
  have hm := Nat.mod_lt u ha0
  refine ⟨hy, hb, ha, hu, hv, e.symm, by omega, ?_, ?_⟩
  · rw [Nat.le_div_iff_mul_le ha0]
    have h1 := Nat.div_mul_le_self (u * 4294967296 + v) y
    generalize (u * 4294967296 + v) / y = Q at *
    rw [hy, Nat.mul_add, ← Nat.mul_assoc] at h1
    generalize Q * a = x at *
    generalize Q * b = z at *
    omega
  · rw [← Nat.lt_succ_iff, Nat.div_lt_iff_lt_mul ha0]
    show u < (4294967297 + 1) * a
    omega
theorem Dg.mul {y a b u v q r : Nat} (h : Dg y a b u v q r) (k : Nat) : k * y = k * a * 4294967296 + k * b := by
  rw [h.hy, Nat.mul_add, Nat.mul_assoc]
theorem Dg.more {y a b u v q r : Nat} (h : Dg y a b u v q r) (hm : 4294967296 ≤ q ∨ 4294967296 * r + v < q * b) : (u * 4294967296 + v) / y + 1 ≤ q := by
  have hy0 : 0 < y := by have := h.hu; omega
  rw [Nat.succ_le_iff, Nat.div_lt_iff_lt_mul hy0]
  have hu := h.hu
  have hv := h.hv
  rcases hm with h1 | h1
  · have h2 : 4294967296 * y ≤ q * y := Nat.mul_le_mul_right y h1
    omega
  · have h2 := h.mul q
    have h3 := h.eq
    generalize q * a = x at *
    omega
theorem Dg.stop {y a b u v q r : Nat} (h : Dg y a b u v q r) (hm : q * b ≤ 4294967296 * r + v) : (u * 4294967296 + v) / y = q := by
  have hy0 : 0 < y := by have := h.hu; omega
  refine Nat.le_antisymm h.le ?_
  rw [Nat.le_div_iff_mul_le hy0]
  have h2 := h.mul q
  have h3 := h.eq
  generalize q * a = x at *
  omega
theorem Dg.last {y a b u v q r : Nat} (h : Dg y a b u v q r) (hm : 4294967296 ≤ q ∨ 4294967296 * r + v < q * b) (hr : 4294967296 ≤ r + a) : (u * 4294967296 + v) / y = q - 1 := by
  have h1 := h.more hm
  have hy0 : 0 < y := by have := h.hu; omega
  refine Nat.le_antisymm (by omega) ?_
  rw [Nat.le_div_iff_mul_le hy0]
  have hq1 : 1 ≤ q := Nat.le_trans (Nat.le_add_left 1 _) h1
  obtain ⟨p, rfl⟩ : ∃ p, q = p + 1 := ⟨q - 1, by omega⟩
  simp only [Nat.add_sub_cancel]
  have h2 := h.mul p
  have h3 := h.eq
  have h4 : p * b ≤ 4294967296 * 4294967296 := Nat.mul_le_mul (by have := h.hq; omega) (by have := h.hb; omega)
  rw [Nat.add_mul, Nat.one_mul] at h3
  generalize p * a = x at *
  generalize p * b = z at *
  omega
theorem Dg.on {y a b u v q r : Nat} (h : Dg y a b u v q r) (hm : 4294967296 ≤ q ∨ 4294967296 * r + v < q * b) (hr : r + a < 4294967296) : Dg y a b u v (q - 1) (r + a) := by
  have h1 := h.more hm
  refine ⟨h.hy, h.hb, h.ha, h.hu, h.hv, ?_, hr, by omega, by have := h.hq; omega⟩
  have hq1 : 1 ≤ q := Nat.le_trans (Nat.le_add_left 1 _) h1
  obtain ⟨p, rfl⟩ : ∃ p, q = p + 1 := ⟨q - 1, by omega⟩
  have h3 := h.eq
  rw [Nat.add_mul, Nat.one_mul] at h3
  simp only [Nat.add_sub_cancel]
  omega
/-- Both figures together. -/
theorem two_figs {y u v w Q1 Q0 R : Nat} (hy : 0 < y) (h1 : (u * 4294967296 + v) / y = Q1) (hR : (u * 4294967296 + v) % y = R) (h0 : (R * 4294967296 + w) / y = Q0) :
    (u * 18446744073709551616 + (v * 4294967296 + w)) / y = Q1 * 4294967296 + Q0 ∧ (u * 18446744073709551616 + (v * 4294967296 + w)) % y = (R * 4294967296 + w) % y := by
  have e1 := Nat.div_add_mod (u * 4294967296 + v) y
  rw [h1, hR] at e1
  have e0 := Nat.div_add_mod (R * 4294967296 + w) y
  rw [h0] at e0
  have hm := Nat.mod_lt (R * 4294967296 + w) hy
  have e : u * 18446744073709551616 + (v * 4294967296 + w) = y * (Q1 * 4294967296 + Q0) + (R * 4294967296 + w) % y := by
    rw [Nat.mul_add, ← Nat.mul_assoc]
    generalize y * Q1 = x at *
    generalize y * Q0 = z at *
    omega
  rw [e]
  constructor
  · rw [Nat.mul_add_div hy, Nat.div_eq_of_lt hm, Nat.add_zero]
  · rw [Nat.mul_add_mod, Nat.mod_eq_of_lt hm]
end Go.Proofs.YtgihkmofpncobaaDoor
