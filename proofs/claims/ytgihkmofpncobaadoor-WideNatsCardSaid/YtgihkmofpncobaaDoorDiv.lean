/- The contract of bits.Div64. -/
import Derived.Test.YtgihkmofpncobaaDoorBits
import Derived.Test.YtgihkmofpncobaaDoorDivP
import Derived.Deep.QuietTactic
import Derived.BigQuiet
import Derived.Deep.CutBlock
import Derived.Deep.CutRange
namespace Go.Proofs.YtgihkmofpncobaaDoor
open Go.RowKit
set_option linter.unusedSimpArgs false
set_option linter.unusedVariables false

set_option maxRecDepth 100000 in
theorem div64_0 (lo y : Nat) (hy : 0 < y) (hl : lo < W64) (hy' : y < W64) (w : World) :
    Calls Tryd.prog 45 #[wv 0, wv lo, wv y] w fun e w' => e = .returned (.tuple #[wv (lo / y), wv (lo % y)]) ∧ Below w.heap.size w w' := by
  have d1 : ((y : Int) == 0) = false := by simp; omega
  have d2 : decide ((y : Int) ≤ 0) = false := by simp; omega
  have hq : IntKind.u64.wrap ((lo : Int) / (y : Int)) = ((lo / y : Nat) : Int) := by
    rw [← Int.natCast_ediv]
    exact wrapN _ (Nat.lt_of_le_of_lt (Nat.div_le_self _ _) hl)
  have hr : (lo : Int).tmod (y : Int) = ((lo % y : Nat) : Int) := by
    rw [Int.tmod_eq_emod_of_nonneg (by omega), ← Int.natCast_emod]
  generalize lo / y = q at *
  generalize lo % y = r at *
  go_enter Tryd.func45, Tryd.ntmps45
  go_wp2_with fail
  go_quiet (fail)
  go_wp2
  go_ret2
  exact ⟨rfl, below_drewN (Below.refl _ _) _⟩
theorem castE {a : Int} {n : Nat} (h : a = (n : Int)) (h2 : n < W64) : IntKind.u64.wrap a = (n : Int) := by rw [h]; exact wrapN n h2

set_option maxRecDepth 100000 in
set_option maxHeartbeats 4000000 in
theorem div64_1 (hi lo y s Y a b H L U V v1 v0 q qa r Q1 Q0 U32 UV Q1Y R q' qa' r' Q32 QQ R32 RV Q0Y X : Nat) (hy : hi < y) (hh : 0 < hi) (hl : lo < W64) (hy' : y < W64) (hs0 : 64 - blen y = s) (hs : s ≤ 63)
    (e1 : IntKind.u64.wrap ((y : Int) * 2 ^ s) = (Y : Int)) (e2 : (Y : Int) / 4294967296 = (a : Int)) (e3 : bits .and .u64 (Y : Int) 4294967295 = (b : Int))
    (e4 : IntKind.u64.wrap ((hi : Int) * 2 ^ s) = (H : Int)) (e5 : (lo : Int) / 2 ^ (64 - s) = (L : Int)) (e6 : bits .or .u64 (H : Int) (L : Int) = (U : Int))
    (e7 : IntKind.u64.wrap ((lo : Int) * 2 ^ s) = (V : Int)) (e8 : (V : Int) / 4294967296 = (v1 : Int)) (e9 : bits .and .u64 (V : Int) 4294967295 = (v0 : Int))
    (ha : 4294967296 ≤ 2 * a) (ha' : a < 4294967296) (hb' : b < 4294967296) (hv1 : v1 < 4294967296) (hv0 : v0 < 4294967296)
    (e10 : IntKind.u64.wrap ((U : Int) / (a : Int)) = (q : Int)) (e11 : IntKind.u64.wrap ((q : Int) * (a : Int)) = (qa : Int)) (e12 : IntKind.u64.wrap ((U : Int) - (qa : Int)) = (r : Int))
    (D1 : Dg Y a b U v1 q r) (hQ1 : (U * 4294967296 + v1) / Y = Q1)
    (e13 : IntKind.u64.wrap ((U : Int) * 4294967296) = (U32 : Int)) (e14 : IntKind.u64.wrap ((U32 : Int) + (v1 : Int)) = (UV : Int)) (e15 : IntKind.u64.wrap ((Q1 : Int) * (Y : Int)) = (Q1Y : Int)) (e16 : IntKind.u64.wrap ((UV : Int) - (Q1Y : Int)) = (R : Int))
    (e17 : IntKind.u64.wrap ((R : Int) / (a : Int)) = (q' : Int)) (e18 : IntKind.u64.wrap ((q' : Int) * (a : Int)) = (qa' : Int)) (e19 : IntKind.u64.wrap ((R : Int) - (qa' : Int)) = (r' : Int))
    (D0 : Dg Y a b R v0 q' r') (hQ0 : (R * 4294967296 + v0) / Y = Q0)
    (e20 : IntKind.u64.wrap ((Q1 : Int) * 4294967296) = (Q32 : Int)) (e21 : IntKind.u64.wrap ((Q32 : Int) + (Q0 : Int)) = (QQ : Int))
    (e22 : IntKind.u64.wrap ((R : Int) * 4294967296) = (R32 : Int)) (e23 : IntKind.u64.wrap ((R32 : Int) + (v0 : Int)) = (RV : Int)) (e24 : IntKind.u64.wrap ((Q0 : Int) * (Y : Int)) = (Q0Y : Int)) (e25 : IntKind.u64.wrap ((RV : Int) - (Q0Y : Int)) = (X : Int))
    (w : World) :
    Calls Tryd.prog 45 #[wv hi, wv lo, wv y] w fun e w' => e = .returned (.tuple #[wv QQ, .int .u64 ((X : Int) / 2 ^ s)]) ∧ w = w' := by
  have d1 : ((y : Int) == 0) = false := by simp; omega
  have d2 : decide ((y : Int) ≤ hi) = false := by simp; omega
  have d3 : ((hi : Int) == 0) = false := by simp; omega
  have d4 : ((a : Int) == 0) = false := by simp; omega
  have d5 : ¬ ((a : Int) = 0) := by omega
  have HL := Lib.hid (fun W => lz64 y hy' W)
  rw [hs0] at HL
  have HD1 := Lib.hid D1
  have HD0 := Lib.hid D0
  have HQ1 := Lib.hid hQ1
  have HQ0 := Lib.hid hQ0
  clear hs0 D1 D0 hQ1 hQ0
  go_enter Tryd.func45, Tryd.ntmps45
  go_wp2_with fail
  refine (HL.out _).mono ?_
  rintro e w' ⟨rfl, rfl⟩
  go_upto_block 0 with fail
  go_cut [15, 16] from 67 to 85 (fun sq sr wx => sq = wv Q1 ∧ w = wx)
  case first =>
    go_wp2_with fail
    go_loop [15, 16] (fun sq sr => ∃ q r : Nat, sq = wv q ∧ sr = wv r ∧ Dg Y a b U v1 q r) (fun sq _ => (intOf sq).toNat)
    case atStart => exact ⟨_, _, rfl, rfl, HD1.out⟩
    case round =>
      obtain ⟨q, r, rfl, rfl, hd⟩ := hrel
      have HD := Lib.hid hd
      have hr := hd.hr
      have hq := hd.hq
      clear hd
      by_cases c1 : 4294967296 ≤ q
      · have t1 : decide ((4294967296 : Int) ≤ q) = true := by simp; omega
        have w1 : IntKind.u64.wrap ((q : Int) - 1) = ((q - 1 : Nat) : Int) := castE (by omega) (by unfold W64; omega)
        have w2 : IntKind.u64.wrap ((r : Int) + (a : Int)) = ((r + a : Nat) : Int) := castE (by omega) (by unfold W64; omega)
        by_cases c2 : 4294967296 ≤ r + a
        · have t2 : decide ((4294967296 : Int) ≤ ((r + a : Nat) : Int)) = true := by simp; omega
          have HF := Lib.hid (HD.out.last (.inl c1) c2)
          generalize q - 1 = p at *
          generalize r + a = ra at *
          go_wp2_with fail
          go_meet
          exact ⟨by rw [← HQ1.out, HF.out], rfl⟩
        · have t2 : decide ((4294967296 : Int) ≤ ((r + a : Nat) : Int)) = false := by simp; omega
          have HF := Lib.hid (HD.out.on (.inl c1) (by omega))
          have hp : q - 1 + 1 = q := by omega
          generalize q - 1 = p at *
          generalize r + a = ra at *
          go_wp2_with fail
          go_round
          case rel => exact ⟨p, ra, rfl, rfl, HF.out⟩
          case measure => simp [intOf]; omega
      · have t1 : decide ((4294967296 : Int) ≤ q) = false := by simp; omega
        have hqb : q * b < W64 := Nat.lt_of_le_of_lt (Nat.mul_le_mul (show q ≤ 4294967295 by omega) (show b ≤ 4294967295 by omega)) (by unfold W64; omega)
        have w3 : IntKind.u64.wrap ((q : Int) * (b : Int)) = ((q * b : Nat) : Int) := castE (Int.natCast_mul q b).symm hqb
        have w4 : IntKind.u64.wrap (4294967296 * (r : Int)) = ((4294967296 * r : Nat) : Int) := castE (by omega) (by unfold W64; omega)
        have w5 : IntKind.u64.wrap (((4294967296 * r : Nat) : Int) + (v1 : Int)) = ((4294967296 * r + v1 : Nat) : Int) := castE (by omega) (by unfold W64; omega)
        by_cases c3 : 4294967296 * r + v1 < q * b
        · have hq1 : 1 ≤ q := by
            rcases Nat.eq_zero_or_pos q with h | h
            · rw [h] at c3; simp at c3
            · exact h
          have w1 : IntKind.u64.wrap ((q : Int) - 1) = ((q - 1 : Nat) : Int) := castE (by omega) (by unfold W64; omega)
          have w2 : IntKind.u64.wrap ((r : Int) + (a : Int)) = ((r + a : Nat) : Int) := castE (by omega) (by unfold W64; omega)
          have t3 : decide (((4294967296 * r + v1 : Nat) : Int) < ((q * b : Nat) : Int)) = true := by simp; omega
          have t3' : decide (4294967296 * r + v1 < q * b) = true := by simp; omega
          by_cases c2 : 4294967296 ≤ r + a
          · have t2 : decide ((4294967296 : Int) ≤ ((r + a : Nat) : Int)) = true := by simp; omega
            have HF := Lib.hid (HD.out.last (.inr c3) c2)
            clear c3
            generalize q - 1 = p at *
            generalize r + a = ra at *
            generalize q * b = qb at *
            generalize 4294967296 * r + v1 = rv at *
            generalize 4294967296 * r = r3 at *
            go_wp2_with fail
            go_meet
            exact ⟨by rw [← HQ1.out, HF.out], rfl⟩
          · have t2 : decide ((4294967296 : Int) ≤ ((r + a : Nat) : Int)) = false := by simp; omega
            have HF := Lib.hid (HD.out.on (.inr c3) (by omega))
            have hp : q - 1 + 1 = q := by omega
            clear c3
            generalize q - 1 = p at *
            generalize r + a = ra at *
            generalize q * b = qb at *
            generalize 4294967296 * r + v1 = rv at *
            generalize 4294967296 * r = r3 at *
            go_wp2_with fail
            go_round
            case rel => exact ⟨p, ra, rfl, rfl, HF.out⟩
            case measure => simp [intOf]; omega
        · have t3 : decide (((4294967296 * r + v1 : Nat) : Int) < ((q * b : Nat) : Int)) = false := by simp; omega
          have t3' : decide (4294967296 * r + v1 < q * b) = false := by simp; omega
          have HF := Lib.hid (HD.out.stop (by omega))
          clear c3
          generalize q * b = qb at *
          generalize 4294967296 * r + v1 = rv at *
          generalize 4294967296 * r = r3 at *
          go_wp2_with fail
          go_meet
          exact ⟨by rw [← HQ1.out, HF.out], rfl⟩
  case rest =>
  obtain ⟨rfl, rfl⟩ := hcut
  go_upto_block 2 with fail
  go_cut [18, 16] from 102 to 120 (fun sq sr wx => sq = wv Q0 ∧ w = wx)
  case first =>
    go_wp2_with fail
    go_loop [18, 16] (fun sq sr => ∃ q r : Nat, sq = wv q ∧ sr = wv r ∧ Dg Y a b R v0 q r) (fun sq _ => (intOf sq).toNat)
    case atStart => exact ⟨_, _, rfl, rfl, HD0.out⟩
    case round =>
      obtain ⟨q, r, rfl, rfl, hd⟩ := hrel
      have HD := Lib.hid hd
      have hr := hd.hr
      have hq := hd.hq
      clear hd
      by_cases c1 : 4294967296 ≤ q
      · have t1 : decide ((4294967296 : Int) ≤ q) = true := by simp; omega
        have w1 : IntKind.u64.wrap ((q : Int) - 1) = ((q - 1 : Nat) : Int) := castE (by omega) (by unfold W64; omega)
        have w2 : IntKind.u64.wrap ((r : Int) + (a : Int)) = ((r + a : Nat) : Int) := castE (by omega) (by unfold W64; omega)
        by_cases c2 : 4294967296 ≤ r + a
        · have t2 : decide ((4294967296 : Int) ≤ ((r + a : Nat) : Int)) = true := by simp; omega
          have HF := Lib.hid (HD.out.last (.inl c1) c2)
          generalize q - 1 = p at *
          generalize r + a = ra at *
          go_wp2_with fail
          go_meet
          exact ⟨by rw [← HQ0.out, HF.out], rfl⟩
        · have t2 : decide ((4294967296 : Int) ≤ ((r + a : Nat) : Int)) = false := by simp; omega
          have HF := Lib.hid (HD.out.on (.inl c1) (by omega))
          have hp : q - 1 + 1 = q := by omega
          generalize q - 1 = p at *
          generalize r + a = ra at *
          go_wp2_with fail
          go_round
          case rel => exact ⟨p, ra, rfl, rfl, HF.out⟩
          case measure => simp [intOf]; omega
      · have t1 : decide ((4294967296 : Int) ≤ q) = false := by simp; omega
        have hqb : q * b < W64 := Nat.lt_of_le_of_lt (Nat.mul_le_mul (show q ≤ 4294967295 by omega) (show b ≤ 4294967295 by omega)) (by unfold W64; omega)
        have w3 : IntKind.u64.wrap ((q : Int) * (b : Int)) = ((q * b : Nat) : Int) := castE (Int.natCast_mul q b).symm hqb
        have w4 : IntKind.u64.wrap (4294967296 * (r : Int)) = ((4294967296 * r : Nat) : Int) := castE (by omega) (by unfold W64; omega)
        have w5 : IntKind.u64.wrap (((4294967296 * r : Nat) : Int) + (v0 : Int)) = ((4294967296 * r + v0 : Nat) : Int) := castE (by omega) (by unfold W64; omega)
        by_cases c3 : 4294967296 * r + v0 < q * b
        · have hq1 : 1 ≤ q := by
            rcases Nat.eq_zero_or_pos q with h | h
            · rw [h] at c3; simp at c3
            · exact h
          have w1 : IntKind.u64.wrap ((q : Int) - 1) = ((q - 1 : Nat) : Int) := castE (by omega) (by unfold W64; omega)
          have w2 : IntKind.u64.wrap ((r : Int) + (a : Int)) = ((r + a : Nat) : Int) := castE (by omega) (by unfold W64; omega)
          have t3 : decide (((4294967296 * r + v0 : Nat) : Int) < ((q * b : Nat) : Int)) = true := by simp; omega
          have t3' : decide (4294967296 * r + v0 < q * b) = true := by simp; omega
          by_cases c2 : 4294967296 ≤ r + a
          · have t2 : decide ((4294967296 : Int) ≤ ((r + a : Nat) : Int)) = true := by simp; omega
            have HF := Lib.hid (HD.out.last (.inr c3) c2)
            clear c3
            generalize q - 1 = p at *
            generalize r + a = ra at *
            generalize q * b = qb at *
            generalize 4294967296 * r + v0 = rv at *
            generalize 4294967296 * r = r3 at *
            go_wp2_with fail
            go_meet
            exact ⟨by rw [← HQ0.out, HF.out], rfl⟩
          · have t2 : decide ((4294967296 : Int) ≤ ((r + a : Nat) : Int)) = false := by simp; omega
            have HF := Lib.hid (HD.out.on (.inr c3) (by omega))
            have hp : q - 1 + 1 = q := by omega
            clear c3
            generalize q - 1 = p at *
            generalize r + a = ra at *
            generalize q * b = qb at *
            generalize 4294967296 * r + v0 = rv at *
            generalize 4294967296 * r = r3 at *
            go_wp2_with fail
            go_round
            case rel => exact ⟨p, ra, rfl, rfl, HF.out⟩
            case measure => simp [intOf]; omega
        · have t3 : decide (((4294967296 * r + v0 : Nat) : Int) < ((q * b : Nat) : Int)) = false := by simp; omega
          have t3' : decide (4294967296 * r + v0 < q * b) = false := by simp; omega
          have HF := Lib.hid (HD.out.stop (by omega))
          clear c3
          generalize q * b = qb at *
          generalize 4294967296 * r + v0 = rv at *
          generalize 4294967296 * r = r3 at *
          go_wp2_with fail
          go_meet
          exact ⟨by rw [← HQ0.out, HF.out], rfl⟩
  case rest =>
  obtain ⟨rfl, rfl⟩ := hcut
  go_wp2_with fail
  go_ret2
  exact ⟨rfl, rfl⟩
theorem wrapD {A B C : Nat} (h : A = B + C) (hC : C < W64) : IntKind.u64.wrap (((A % W64 : Nat) : Int) - ((B % W64 : Nat) : Int)) = (C : Int) := by
  unfold W64 at *
  rw [IntKind.wrap_u64]
  omega
theorem maskN (a : Nat) (ha : a < W64) : bits .and .u64 (a : Int) 4294967295 = ((a % 4294967296 : Nat) : Int) := by
  have h := bits_and_u64_nat a 4294967295 ha (by omega)
  have e : a &&& 4294967295 = a % 4294967296 := Nat.and_two_pow_sub_one_eq_mod a 32
  rw [e] at h
  exact h
theorem orN {H L s : Nat} (h : ∃ k, H = k * 2 ^ s) (hL : L < 2 ^ s) (hH : H + L < W64) : bits .or .u64 (H : Int) (L : Int) = ((H + L : Nat) : Int) := by
  obtain ⟨k, rfl⟩ := h
  have h1 : (BitVec.ofInt 64 ((k * 2 ^ s : Nat) : Int)).toNat = k * 2 ^ s := by
    rw [BitVec.ofInt_natCast, BitVec.toNat_ofNat]; exact Nat.mod_eq_of_lt (by unfold W64 at hH; omega)
  have h2 : (BitVec.ofInt 64 (L : Int)).toNat = L := by
    rw [BitVec.ofInt_natCast, BitVec.toNat_ofNat]; exact Nat.mod_eq_of_lt (by unfold W64 at hH; omega)
  show IntKind.u64.wrap ((BitVec.ofInt 64 ((k * 2 ^ s : Nat) : Int) ||| BitVec.ofInt 64 (L : Int)).toNat : Int) = _
  rw [BitVec.toNat_or, h1, h2]
  have := Nat.two_pow_add_eq_or_of_lt (b := L) (i := s) hL k
  rw [Nat.mul_comm k, ← this]
  exact wrapN _ (by rw [Nat.mul_comm]; exact hH)
theorem shl_w (x s : Nat) : IntKind.u64.wrap ((x : Int) * 2 ^ s) = ((x * 2 ^ s % W64 : Nat) : Int) := by
  have : (x : Int) * 2 ^ s = ((x * 2 ^ s : Nat) : Int) := by rw [Int.natCast_mul, Int.natCast_pow]; rfl
  rw [this, wrapM]
theorem shr_w (x s : Nat) : (x : Int) / 2 ^ s = ((x / 2 ^ s : Nat) : Int) := by rw [Int.natCast_ediv, Int.natCast_pow]; rfl
theorem mul_w (x y : Nat) : IntKind.u64.wrap ((x : Int) * (y : Int)) = ((x * y % W64 : Nat) : Int) := by rw [← Int.natCast_mul, wrapM]
theorem add_w (x y : Nat) : IntKind.u64.wrap ((x : Int) + (y : Int)) = (((x + y) % W64 : Nat) : Int) := by rw [← Int.natCast_add, wrapM]

theorem div64 (hi lo y : Nat) (hy : hi < y) (hl : lo < W64) (hy' : y < W64) (w : World) :
    Calls Tryd.prog 45 #[wv hi, wv lo, wv y] w fun e w' => e = .returned (.tuple #[wv ((hi * W64 + lo) / y), wv ((hi * W64 + lo) % y)]) ∧ Below w.heap.size w w' := by
  rcases Nat.eq_zero_or_pos hi with h0 | hh
  · subst h0
    have := div64_0 lo y (by omega) hl hy' w
    rw [Nat.zero_mul, Nat.zero_add]
    exact this
  obtain ⟨s, hs⟩ : ∃ s, s = 64 - blen y := ⟨_, rfl⟩
  have hb1 := blen_pos (show y ≠ 0 by omega)
  have hb2 := blen_le64 hy'
  have hb3 := blen_lt y
  have hb4 := blen_ge (show y ≠ 0 by omega)
  have hp : 0 < 2 ^ s := Nat.pow_pos (by omega)
  have hW : W64 = 2 ^ s * 2 ^ (64 - s) := by rw [← Nat.pow_add, show s + (64 - s) = 64 by omega]; rfl
  obtain ⟨Y, hY⟩ : ∃ Y, Y = y * 2 ^ s := ⟨_, rfl⟩
  have hY1 : Y < W64 := by
    rw [hY, W64_pow, show 64 = blen y + s by omega, Nat.pow_add]
    exact Nat.mul_lt_mul_of_pos_right hb3 hp
  have hY2 : W64 ≤ 2 * Y := by
    rw [hY, W64_pow, show 64 = (blen y - 1 + s) + 1 by omega, Nat.pow_succ, Nat.pow_add, Nat.mul_comm]
    exact Nat.mul_le_mul_left 2 (Nat.mul_le_mul_right _ hb4)
  have hH : hi * 2 ^ s + 2 ^ s ≤ Y := by
    rw [hY, ← Nat.succ_mul]; exact Nat.mul_le_mul_right _ hy
  have hL : lo / 2 ^ (64 - s) < 2 ^ s := by
    rw [Nat.div_lt_iff_lt_mul (Nat.pow_pos (by omega)), ← hW]; exact hl
  obtain ⟨U, hU⟩ : ∃ U, U = hi * 2 ^ s + lo / 2 ^ (64 - s) := ⟨_, rfl⟩
  have hUY : U < Y := by omega
  have hN : (hi * W64 + lo) * 2 ^ s = U * W64 + lo * 2 ^ s % W64 := by
    have e1 : lo * 2 ^ s / W64 = lo / 2 ^ (64 - s) := by rw [hW, Nat.mul_comm lo, Nat.mul_div_mul_left _ _ hp]
    have e2 := Nat.div_add_mod (lo * 2 ^ s) W64
    rw [e1] at e2
    rw [hU, Nat.add_mul, Nat.add_mul, Nat.mul_right_comm hi, Nat.mul_comm (lo / 2 ^ (64 - s)) W64, Nat.add_assoc, e2]
  obtain ⟨V, hV⟩ : ∃ V, V = lo * 2 ^ s % W64 := ⟨_, rfl⟩
  have hV1 : V < W64 := by rw [hV]; exact Nat.mod_lt _ (by unfold W64; omega)
  rw [← hV] at hN
  have D1 : Dg Y (Y / 4294967296) (Y % 4294967296) U (V / 4294967296) (U / (Y / 4294967296)) (U % (Y / 4294967296)) := by
    unfold W64 at *
    exact Dg.start (by omega) (by omega) (by omega) (by omega) hUY (by omega)
  have hY0 : 0 < Y := by omega
  have hR := Nat.mod_lt (U * 4294967296 + V / 4294967296) hY0
  have D0 : Dg Y (Y / 4294967296) (Y % 4294967296) ((U * 4294967296 + V / 4294967296) % Y) (V % 4294967296) ((U * 4294967296 + V / 4294967296) % Y / (Y / 4294967296)) ((U * 4294967296 + V / 4294967296) % Y % (Y / 4294967296)) := by
    unfold W64 at *
    exact Dg.start (by omega) (by omega) (by omega) (by omega) hR (by omega)
  obtain ⟨f1, f2⟩ := two_figs (w := V % 4294967296) hY0 rfl rfl rfl
  have hVV : V / 4294967296 * 4294967296 + V % 4294967296 = V := Nat.div_add_mod' V 4294967296
  have hUV : U * 18446744073709551616 + V = (hi * W64 + lo) * 2 ^ s := hN.symm
  rw [hVV, hUV, hY] at f1 f2
  rw [Nat.mul_div_mul_right _ _ hp] at f1
  rw [Nat.mul_mod_mul_right] at f2
  rw [← hY] at f1 f2
  have hlast : ((hi * W64 + lo) / y) < W64 := by
    rw [Nat.div_lt_iff_lt_mul (by omega)]
    have : (hi + 1) * W64 ≤ y * W64 := Nat.mul_le_mul_right _ hy
    rw [Nat.mul_comm W64]
    rw [Nat.add_mul, Nat.one_mul] at this
    omega
  have hRe := Nat.div_add_mod (U * 4294967296 + V / 4294967296) Y
  obtain ⟨Q1, hQ1⟩ : ∃ Q1, (U * 4294967296 + V / 4294967296) / Y = Q1 := ⟨_, rfl⟩
  obtain ⟨R, hR'⟩ : ∃ R, (U * 4294967296 + V / 4294967296) % Y = R := ⟨_, rfl⟩
  rw [hQ1, hR'] at hRe
  rw [hQ1, hR'] at f1
  rw [hR'] at f2 D0 hR
  have hXe := Nat.div_add_mod (R * 4294967296 + V % 4294967296) Y
  have hX := Nat.mod_lt (R * 4294967296 + V % 4294967296) hY0
  obtain ⟨Q0, hQ0⟩ : ∃ Q0, (R * 4294967296 + V % 4294967296) / Y = Q0 := ⟨_, rfl⟩
  obtain ⟨X, hX'⟩ : ∃ X, (R * 4294967296 + V % 4294967296) % Y = X := ⟨_, rfl⟩
  rw [hQ0, hX'] at hXe
  rw [hX'] at hX f2
  rw [hQ0] at f1
  have q1 : U / (Y / 4294967296) < W64 := Nat.lt_of_le_of_lt D1.hq (by unfold W64; omega)
  have q0 : R / (Y / 4294967296) < W64 := Nat.lt_of_le_of_lt D0.hq (by unfold W64; omega)
  have m1 : U % (Y / 4294967296) < W64 := Nat.lt_trans D1.hr (by unfold W64; omega)
  have m0 : R % (Y / 4294967296) < W64 := Nat.lt_trans D0.hr (by unfold W64; omega)
  have k1 := Nat.div_add_mod' U (Y / 4294967296)
  have k0 := Nat.div_add_mod' R (Y / 4294967296)
  refine (div64_1 hi lo y s Y (Y / 4294967296) (Y % 4294967296) (hi * 2 ^ s) (lo / 2 ^ (64 - s)) U V (V / 4294967296) (V % 4294967296)
    (U / (Y / 4294967296)) (U / (Y / 4294967296) * (Y / 4294967296) % W64) (U % (Y / 4294967296)) Q1 Q0 (U * 4294967296 % W64) ((U * 4294967296 + V / 4294967296) % W64) (Q1 * Y % W64) R
    (R / (Y / 4294967296)) (R / (Y / 4294967296) * (Y / 4294967296) % W64) (R % (Y / 4294967296)) (Q1 * 4294967296) (Q1 * 4294967296 + Q0) (R * 4294967296 % W64) ((R * 4294967296 + V % 4294967296) % W64) (Q0 * Y % W64) X
    hy hh hl hy' hs.symm (by omega) ?_ ?_ (maskN Y hY1) ?_ (shr_w lo (64 - s)) ?_ (by rw [hV]; exact shl_w lo s) ?_ (maskN V hV1) D1.ha (by unfold W64 at hY1; omega) D1.hb D1.hv D0.hv
    ?_ (mul_w _ _) ?_ D1 hQ1 ?_ ?_ (mul_w _ _) ?_ ?_ (mul_w _ _) ?_ D0 hQ0 ?_ ?_ ?_ ?_ (mul_w _ _) ?_ w).mono ?_
  · rw [shl_w, ← hY, Nat.mod_eq_of_lt hY1]
  · omega
  · rw [shl_w, Nat.mod_eq_of_lt (by omega)]
  · rw [hU]; exact orN ⟨hi, rfl⟩ hL (by omega)
  · omega
  · rw [← Int.natCast_ediv]; exact wrapN _ q1
  · have := wrapD (A := U) (B := U / (Y / 4294967296) * (Y / 4294967296)) (C := U % (Y / 4294967296)) k1.symm m1
    rwa [Nat.mod_eq_of_lt (show U < W64 by omega)] at this
  · rw [show (U : Int) * 4294967296 = ((U * 4294967296 : Nat) : Int) by omega, wrapM]
  · rw [add_w]; unfold W64; omega
  · exact wrapD (by rw [Nat.mul_comm Q1]; exact hRe.symm) (by omega)
  · rw [← Int.natCast_ediv]; exact wrapN _ q0
  · have := wrapD (A := R) (B := R / (Y / 4294967296) * (Y / 4294967296)) (C := R % (Y / 4294967296)) k0.symm m0
    rwa [Nat.mod_eq_of_lt (show R < W64 by omega)] at this
  · rw [show (Q1 : Int) * 4294967296 = ((Q1 * 4294967296 : Nat) : Int) by omega]; exact wrapN _ (by omega)
  · rw [← Int.natCast_add]; exact wrapN _ (by omega)
  · rw [show (R : Int) * 4294967296 = ((R * 4294967296 : Nat) : Int) by omega, wrapM]
  · rw [add_w]; unfold W64; omega
  · exact wrapD (by rw [Nat.mul_comm Q0]; exact hXe.symm) (by omega)
  · rintro e w' ⟨rfl, rfl⟩
    refine ⟨?_, Below.refl _ _⟩
    rw [f1, shr_w, ← f2, Nat.mul_div_cancel _ hp]
end Go.Proofs.YtgihkmofpncobaaDoor
