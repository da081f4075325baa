/- The contracts of natural numbers' Bit, Word. -/
import Derived.Test.YtjggmdlecdbeeaaGreatDoorNatH
namespace Go.Proofs.YtjggmdlecdbeeaaGreatDoor
open Go.RowKit
set_option linter.unusedSimpArgs false
set_option linter.unusedVariables false

set_option maxRecDepth 100000 in
theorem word_big (v : Value) (x i : Nat) (w : World) (hv : NatW w v x) (hi : i ≤ 1000000000000000000) :
    Calls Tryz.prog 122 #[v, .int .i64 (i : Int)] w fun e w' => e = .returned (wv (x / W64 ^ i % W64)) ∧ Below w.heap.size w w' := by
  obtain ⟨A, n, c, rfl, l, hf, hn, hr, hc⟩ := hv
  have HR := Lib.hid (hr.below (below_new w (.cells #[.slice A n c] 126)))
  rw [← hf.get i]
  clear hr hf
  by_cases h : i < n
  · obtain ⟨g, o, rfl, hl0⟩ := HR.out.cell i (by simp; omega)
    rw [List.getElem_map] at hl0
    have hlx : l.getD i 0 = l[i] := by simp [List.getD, show i < l.length by omega]
    rw [hlx]
    clear hlx
    generalize l[i] = y at *
    have t1 : decide (i < n) = true := by simp; omega
    have t1' : decide ((i : Int) < n) = true := by simp; omega
    have q : (i : Int) < n := by omega
    go_enter Tryz.func122, Tryz.ntmps122
    go_wp2_with fail
    go_ret
    exact ⟨rfl, by go_grown⟩
  · have hlx : l.getD i 0 = 0 := by simp [List.getD, show l.length ≤ i by omega]
    rw [hlx]
    have t1 : decide (i < n) = false := by simp; omega
    have t1' : decide ((i : Int) < n) = false := by simp; omega
    go_enter Tryz.func122, Tryz.ntmps122
    go_wp2_with fail
    go_ret
    exact ⟨rfl, by go_grown⟩

/-- A number's bit at a place. -/
def bitV (x : Nat) (k : Int) : Bool := decide (0 ≤ k ∧ x / 2 ^ k.toNat % 2 = 1)
theorem bit_word (x q : Nat) : x / W64 ^ (q / 64) % W64 / 2 ^ (q % 64) % 2 = x / 2 ^ q % 2 := by
  have h1 : W64 ^ (q / 64) = 2 ^ (64 * (q / 64)) := by rw [W64_pow, Nat.pow_mul]
  have h2 : ∀ y, y % W64 / 2 ^ (q % 64) % 2 = y / 2 ^ (q % 64) % 2 := fun y => by
    have h3 := Nat.mod_lt q (show 0 < 64 by omega)
    have h4 : W64 = 2 ^ (q % 64) * (2 * 2 ^ (63 - q % 64)) := by
      rw [← Nat.pow_succ', ← Nat.pow_add, W64_pow]; congr 1; omega
    rw [h4, Nat.mod_mul_right_div_self, Nat.mod_mul_right_mod]
  rw [h2, h1, Nat.div_div_eq_div_mul, ← Nat.pow_add, Nat.div_add_mod]

set_option maxRecDepth 100000 in
theorem bit_nat (v : Value) (x : Nat) (k : Int) (w : World) (hv : NatW w v x) (hk : (Lit.int .i64 k).wf = true) :
    Calls Tryz.prog 105 #[v, .int .i64 k] w fun e w' => e = .returned (.bool (bitV x k)) ∧ Below w.heap.size w w' := by
  have HV := Lib.hid hv
  obtain ⟨A, n, c, rfl, _⟩ := hv
  have hlo : -9223372036854775808 ≤ k ∧ k ≤ 9223372036854775807 := by have h := hk; simp [Lit.wf] at h; exact h
  clear hk
  by_cases h0 : 0 ≤ k
  · obtain ⟨q, rfl⟩ : ∃ q : Nat, k = q := ⟨k.toNat, by omega⟩
    have hw := (fun W hb => word_big _ x (q / 64) W (HV.out.below (w' := W) hb) (by omega))
    have e64 : ((q / 64 : Nat) : Int) = (q : Int) / 64 := by omega
    obtain ⟨r, hr⟩ : ∃ r, r = q % 64 := ⟨_, rfl⟩
    have e65 : ((q : Int) % 64) = (r : Int) := by omega
    have hr64 : r < 64 := by omega
    simp only [e64] at hw
    have HW := Lib.hid hw
    clear e64 hw
    have e1 := bit_word x q
    have hX : x / W64 ^ (q / 64) % W64 < W64 := Nat.mod_lt _ (by unfold W64; omega)
    have e2 : bitV x q = decide (x / W64 ^ (q / 64) % W64 / 2 ^ (q % 64) % 2 = 1) := by
      unfold bitV; rw [e1]; simp
    rw [e2]
    clear e1 e2
    rw [← hr]
    clear hr
    generalize x / W64 ^ (q / 64) % W64 = X at *
    have hs := shr_w X r
    have hZ : X / 2 ^ r < W64 := Nat.lt_of_le_of_lt (Nat.div_le_self _ _) hX
    generalize X / 2 ^ r = Z at *
    have hand : bits .and .u64 (Z : Int) 1 = ((Z % 2 : Nat) : Int) := by
      have h := bits_and_u64_nat Z 1 hZ (by omega)
      rw [Nat.and_one_is_mod] at h
      exact h
    have hb2 : Z % 2 = 0 ∨ Z % 2 = 1 := by omega
    clear hX hZ
    generalize Z % 2 = b at *
    have hbb : ((b : Int) == 1) = decide (b = 1) := by rcases hb2 with rfl | rfl <;> rfl
    have HBB := Lib.hid hb2
    clear hb2
    generalize decide (b = 1) = res at *
    have t0 : decide ((0 : Int) ≤ q) = true := by simp
    go_enter Tryz.func105, Tryz.ntmps105
    go_wp2_with fail
    refine (HW.out _ (by go_grown)).mono ?_
    rintro e w1 ⟨rfl, hb1⟩
    have HB1 := Lib.hid (keepb (below_new w (.cells #[.slice A n c] 126)) hb1)
    clear hb1
    go_wp2_with fail
    go_ret
    exact ⟨rfl, HB1.out⟩
  · have e2 : bitV x k = false := by unfold bitV; simp [h0]
    rw [e2]
    have t0 : decide ((0 : Int) ≤ k) = false := by simpa using h0
    clear h0 e2
    go_enter Tryz.func105, Tryz.ntmps105
    go_wp2_with fail
    go_ret
    exact ⟨rfl, by go_grown⟩

/-- What Word answers. -/
def wordV (x : Nat) : Value := if x < W64 then .tuple #[wv x, .bool true] else .tuple #[wv 0, .bool false]
set_option maxRecDepth 100000 in
theorem nword_nat (v : Value) (x : Nat) (w : World) (hv : NatW w v x) (hx : blen x ≤ 1000000) :
    Calls Tryz.prog 104 #[v] w fun e w' => e = .returned (wordV x) ∧ Below w.heap.size w w' := by
  have HV := Lib.hid hv
  obtain ⟨A, n, c, rfl, hl⟩ := hv
  have hnn := natl_len hl
  have hn1 : n ≤ 20000 := by omega
  have hx1 : n ≤ 1 → x < W64 := fun h => by
    obtain ⟨l, h1, rfl, _⟩ := hl
    exact Nat.lt_of_lt_of_le h1.lt (by have := Nat.pow_le_pow_right (show 0 < W64 by unfold W64; omega) h; rwa [Nat.pow_one] at this)
  have hx2 : 1 < n → W64 ≤ x := fun h => by
    obtain ⟨l, h1, rfl, _⟩ := hl
    have h2 := h1.ge (l.length - 1) (by omega)
    exact Nat.le_trans (by have := Nat.pow_le_pow_right (show 0 < W64 by unfold W64; omega) (show 1 ≤ l.length - 1 by omega); rwa [Nat.pow_one] at this) h2
  clear hl hnn hx
  by_cases h : 1 < n
  · have e : wordV x = .tuple #[wv 0, .bool false] := by unfold wordV; rw [if_neg (by have := hx2 h; omega)]
    rw [e]
    have t1 : decide ((1 : Int) < n) = true := by simp; omega
    have t1' : decide (1 < n) = true := by simp; omega
    clear hx1 hx2 e h
    go_enter Tryz.func104, Tryz.ntmps104
    go_wp2_with fail
    exact bodyPost_ret (v := .tuple #[wv 0, .bool false]) (by simp [results, Tryz.results104, go_sem]) rfl ⟨rfl, by go_grown⟩
  · have hxl := hx1 (by omega)
    have e : wordV x = .tuple #[wv x, .bool true] := by unfold wordV; rw [if_pos hxl]
    rw [e]
    have HW := Lib.hid (fun W hb => word_nat _ x 0 W (HV.out.below (w' := W) hb) (by omega))
    have e0 : x / W64 ^ 0 % W64 = x := by rw [Nat.pow_zero, Nat.div_one, Nat.mod_eq_of_lt hxl]
    rw [e0] at HW
    have t1 : decide ((1 : Int) < n) = false := by simp; omega
    have t1' : decide (1 < n) = false := by simp; omega
    clear hx1 hx2 e h hxl e0
    go_enter Tryz.func104, Tryz.ntmps104
    go_wp2_with fail
    refine (HW.out _ (by go_grown)).mono ?_
    rintro e w1 ⟨rfl, hb1⟩
    have HB1 := Lib.hid (keepb (below_new w (.cells #[.slice A n c] 126)) hb1)
    clear hb1
    go_wp2_with fail
    exact bodyPost_ret (v := .tuple #[wv x, .bool true]) (by simp [results, Tryz.results104, go_sem]) rfl ⟨rfl, HB1.out⟩
end Go.Proofs.YtjggmdlecdbeeaaGreatDoor
