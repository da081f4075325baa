/- The document's natural numbers: a number divided by two to a power. -/
import Derived.Test.YtgihkmofpncobaaDoorNRH
import Derived.Test.YtgihkmofpncobaaDoorCalm
import Derived.Deep.DrawnRows
namespace Go.Proofs.YtgihkmofpncobaaDoor
open Go.RowKit
set_option linter.unusedSimpArgs false
set_option linter.unusedVariables false

attribute [local go_sem] SGives_value SGives_skip SGives_enter CGives_value CGives_skip CGives_enter MGives_value MGives_skip MGives_enter
/-- The quotient by two to a power, and whether something is left. -/
def DownP (x K : Nat) (w : World) (e : Ending) (w' : World) : Prop := ∃ A n c, e = .returned (.tuple #[.agg #[.slice A n c], .bool (decide (x % 2 ^ K ≠ 0))]) ∧ RatL w' A n c (x / 2 ^ K) ∧ Below w.heap.size w w'
theorem lost_step (x j s : Nat) : decide (x % 2 ^ (j + s) ≠ 0) = (decide (x % 2 ^ j ≠ 0) || decide (0 < x / 2 ^ j % 2 ^ s)) := by
  rw [Nat.pow_add, Nat.mod_mul]
  have hp : 0 < 2 ^ j := Nat.pow_pos (by decide)
  generalize 2 ^ j = P at *
  generalize x / P % 2 ^ s = r
  by_cases h1 : x % P = 0
  · rw [h1]
    by_cases h2 : r = 0
    · subst h2; simp
    · have : P * r ≠ 0 := Nat.mul_ne_zero (by omega) h2
      have h3 : 0 < r := by omega
      simp [this, h3]
  · have : x % P + P * r ≠ 0 := by omega
    simp [h1]
theorem down_none {x j K : Nat} (h : x / 2 ^ j = 0) (hjK : j ≤ K) : x / 2 ^ K = 0 ∧ decide (x % 2 ^ K ≠ 0) = decide (x % 2 ^ j ≠ 0) := by
  have hp : 0 < 2 ^ j := Nat.pow_pos (by decide)
  have hlt : x < 2 ^ j := by
    rcases Nat.div_eq_zero_iff.1 h with h | h
    · omega
    · exact h
  have hlt2 : x < 2 ^ K := Nat.lt_of_lt_of_le hlt (Nat.pow_le_pow_right (by decide) hjK)
  exact ⟨Nat.div_eq_of_lt hlt2, by rw [Nat.mod_eq_of_lt hlt, Nat.mod_eq_of_lt hlt2]⟩
set_option maxRecDepth 4000000 in
set_option maxHeartbeats 4000000 in
theorem rdown_core (v : Value) (x N K : Nat) (k : Int) (w : World) (hv : RatW w v x) (hx : x < B4 ^ N) (hN : N ≤ 10000) (hk : (k < 0 ∧ K = 0) ∨ (0 ≤ k ∧ k ≤ 8192 ∧ k = (K : Int)) ∨ (8192 < k ∧ K = 8192)) :
    Calls Tryd.prog 37 #[v, .int .i64 k] w (DownP x K w) := by
  obtain ⟨A, n, c, rfl, hl⟩ := hv
  have HL := Lib.hid hl
  have HX := Lib.hid hx
  have HKK := Lib.hid hk
  have hK : K ≤ 8192 := by omega
  have HK8 := Lib.hid hK
  clear hl hx hk hK
  go_enter Tryd.func37, Tryd.ntmps37
  obtain ⟨W0, hW0⟩ : ∃ W0, (w.alloc (.cells #[.slice A n c] 31)).alloc (.cells #[.slice none 0 0] 31) = W0 := ⟨_, rfl⟩
  obtain ⟨b0, b1, hb0, hsz⟩ := boxes2b hW0
  have HA := Lib.hid b0
  have HB := Lib.hid b1
  have HB0 := Lib.hid hb0
  have HSZ := Lib.hid hsz
  have HL0 := Lib.hid (HL.out.below hb0)
  clear b0 b1 hb0 hsz
  go_upto_if 10 with fail
  clear hW0
  go_cut [1] from 11 to 11 (fun s1 wx => s1 = .int .i64 (if k < 0 then 0 else k) ∧ W0 = wx)
  case first =>
    go_wp2_with fail
    all_goals
      go_meet
      refine ⟨?_, rfl⟩
      split
      · first | rfl | omega
      · first | rfl | omega
  case rest =>
  obtain ⟨rfl, hwx⟩ := hcut
  subst hwx
  obtain ⟨k1, hk1⟩ : ∃ k1, (if k < 0 then 0 else k) = k1 := ⟨_, rfl⟩
  have hk2 : (0 ≤ k1 ∧ k1 ≤ 8192 ∧ k1 = (K : Int)) ∨ (8192 < k1 ∧ K = 8192) := by
    rw [← hk1]
    rcases HKK.out with ⟨h1, h2⟩ | ⟨h1, h2, h3⟩ | ⟨h1, h2⟩
    · rw [if_pos h1]; exact .inl ⟨by omega, by omega, by omega⟩
    · rw [if_neg (by omega)]; exact .inl ⟨h1, h2, h3⟩
    · rw [if_neg (by omega)]; exact .inr ⟨h1, h2⟩
  rw [hk1]
  have HK2 := Lib.hid hk2
  clear hk1 hk2 HKK
  go_upto_if 12 with fail
  go_cut [1] from 13 to 13 (fun s1 wx => s1 = .int .i64 (K : Int) ∧ W0 = wx)
  case first =>
    go_wp2_with fail
    all_goals
      go_meet
      have := HK2.out
      exact ⟨by congr 1; omega, rfl⟩
  case rest =>
  obtain ⟨rfl, hwx⟩ := hcut
  subst hwx
  clear HK2
  have HB0s := Lib.hid (show w.heap.size ≤ W0.heap.size by rw [HSZ.out]; omega)
  go_wp2_with fail
  go_loopw [1, 6] (fun s1 s6 wr => ∃ (j A1 : _) (n1 c1 : Nat), j ≤ K ∧ s1 = .int .i64 ((K - j : Nat) : Int) ∧ s6 = .bool (decide (x % 2 ^ j ≠ 0)) ∧ RatL wr A1 n1 c1 (x / 2 ^ j) ∧ Blk wr w.heap.size 31 #[.slice A1 n1 c1] ∧ Blk wr (w.heap.size + 1) 31 #[.slice none 0 0] ∧ Below w.heap.size w wr) (fun s1 _ _ => (intOf s1).toNat)
  case atStart => exact ⟨0, A, n, c, Nat.zero_le _, rfl, by rw [Nat.pow_zero, Nat.mod_one]; rfl, by rw [Nat.pow_zero, Nat.div_one]; exact HL0.out, HA.out, HB.out, HB0.out⟩
  case round =>
    obtain ⟨j, A1, n1, c1, hjK, rfl, rfl, hl1, hb1, hb2, hbw⟩ := hrel
    have HJK := Lib.hid hjK
    have HL1 := Lib.hid hl1
    have HB1 := Lib.hid hb1
    have HB2 := Lib.hid hb2
    have HBW := Lib.hid hbw
    have hn1 : n1 ≤ 10000 := Nat.le_trans (hl1.len (Nat.lt_of_le_of_lt (Nat.div_le_self _ _) HX.out)) hN
    have HN1 := Lib.hid hn1
    have ca := hb1.cell 0
    have cf := hb2.frozen 0
    have cc := hb2.cell 0
    simp at ca cf cc
    clear hjK hl1 hb1 hb2 hbw
    obtain ⟨D, hD⟩ : ∃ D, K - j = D := ⟨_, rfl⟩
    rw [hD]
    have HD := Lib.hid hD
    clear hD
    have hend : (D = 0 ∨ n1 = 0) → DownP x K w (.returned (.tuple #[.agg #[.slice A1 n1 c1], .bool (decide (x % 2 ^ j ≠ 0))])) (wr.setCell ⟨w.heap.size + 1, 0, none⟩ (.slice A1 n1 c1)) := by
      intro h
      have h2 : x / 2 ^ K = x / 2 ^ j ∧ decide (x % 2 ^ K ≠ 0) = decide (x % 2 ^ j ≠ 0) := by
        rcases h with h | h
        · have := HD.out
          have := HJK.out
          rw [show K = j by omega]
          exact ⟨rfl, rfl⟩
        · have hz := HL1.out.zero.1 h
          rw [hz]
          exact down_none hz HJK.out
      refine ⟨A1, n1, c1, by rw [h2.2], by rw [h2.1]; exact HL1.out.set HB2.out (by decide) _, HBW.out.setCell (Nat.le_add_right _ _) _⟩
    have HEND := Lib.hid hend
    have HPUT := Lib.hid (HB2.out.put (i := 0) (by simp) (.slice A1 n1 c1))
    clear hend
    generalize hlos : decide (x % 2 ^ j ≠ 0) = los at *
    have HLOS := Lib.hid hlos
    clear hlos
    rcases Nat.eq_zero_or_pos D with hD0 | hD0
    · subst hD0
      have hpu := HPUT.out
      go_wp2_with fail
      exact bodyPost_ret (v := .tuple #[.agg #[.slice A1 n1 c1], .bool los]) (by simp [results, Tryd.results37, go_sem, hpu]) rfl (HEND.out (.inl trivial))
    · rcases Nat.eq_zero_or_pos n1 with hn0 | hn0
      · subst hn0
        have hpu := HPUT.out
        have t1 : decide ((0 : Int) < (D : Int)) = true := decide_eq_true (by omega)
        have t1' : decide (0 < D) = true := decide_eq_true (by omega)
        go_wp2_with fail
        exact bodyPost_ret (v := .tuple #[.agg #[.slice A1 0 c1], .bool los]) (by simp [results, Tryd.results37, go_sem, hpu]) rfl (HEND.out (.inr trivial))
      · have t1 : decide ((0 : Int) < (D : Int)) = true := decide_eq_true (by omega)
        have t1' : decide (0 < D) = true := decide_eq_true (by omega)
        have t2 : decide ((0 : Int) < (n1 : Int)) = true := decide_eq_true (by omega)
        have t2' : decide (0 < n1) = true := decide_eq_true (by omega)
        clear HEND HPUT
        go_upto_if 23 with fail
        go_cut [7] from 24 to 24 (fun s7 wx => s7 = .int .i64 ((min D 15 : Nat) : Int) ∧ wr = wx)
        case first =>
          go_wp2_with fail
          all_goals
            go_meet
            exact ⟨by congr 1; omega, rfl⟩
        case rest =>
        obtain ⟨rfl, hwx⟩ := hcut
        subst hwx
        obtain ⟨s, hs⟩ : ∃ s, min D 15 = s := ⟨_, rfl⟩
        rw [hs]
        have hs15 : s ≤ 15 := by omega
        have hsD : s ≤ D := by omega
        have hs0 : 0 < s := by omega
        clear hs
        have hx1 : x / 2 ^ j < B4 ^ N := Nat.lt_of_le_of_lt (Nat.div_le_self _ _) HX.out
        have hq : x / 2 ^ j / 2 ^ s = x / 2 ^ (j + s) := by rw [Nat.div_div_eq_div_mul, ← Nat.pow_add]
        have hr : decide (x % 2 ^ (j + s) ≠ 0) = (los || decide (0 < x / 2 ^ j % 2 ^ s)) := by rw [lost_step, HLOS.out]
        have hd0 : 0 < 2 ^ s := Nat.pow_pos (by decide)
        have hd1 : 2 ^ s ≤ 2 ^ 15 := Nat.pow_le_pow_right (by decide) hs15
        have hd2 : 2 ^ s ≤ 32768 := hd1
        have hpi : (2 : Int) ^ s = ((2 ^ s : Nat) : Int) := by simp
        have hsI : (s : Int) ≤ 15 := by omega
        have hwd : Int.toNat (s : Int) = s := by omega
        have HQ := Lib.hid hq
        have HR := Lib.hid hr
        have HHV := Lib.hid (fun v W (h : RatW W v (x / 2 ^ j)) => rhalved_nat v (x / 2 ^ j) (2 ^ s) N W h hd0 (by omega) hx1 hN)
        clear hq hr hx1 hd1
        generalize 2 ^ s = d at *
        have hdI : (d : Int) ≤ 32768 := by omega
        obtain ⟨X, hX⟩ : ∃ X, x / 2 ^ j = X := ⟨_, rfl⟩
        rw [hX] at HQ HR HHV HL1
        obtain ⟨r, hr⟩ : ∃ r, X % d = r := ⟨_, rfl⟩
        have hmi : (X : Int) % (d : Int) = (r : Int) := by rw [← hr]; rfl
        have hrl : r < 32768 := by have := Nat.mod_lt X hd0; omega
        have hrI : (r : Int) < 32768 := by omega
        rw [hr] at HR
        clear hr
        have hwr : IntKind.i64.wrap (d : Int) = (d : Int) := IntWalk.i64_in _ (by omega)
        go_upto_region 11 with fail
        obtain ⟨S, SD⟩ : ∃ S : World → Prop, Go.RowKit.Hid (∀ w' : World, S w' ↔ Below wr.heap.size wr w') := ⟨_, Lib.hid (fun _ => Iff.rfl)⟩
        refine wp_region_way (S := S) (by kernel_rfl) (by kernel_rfl) (fun W W' h hb => (SD.out _).2 (keepb ((SD.out _).1 h) hb)) ((SD.out _).2 (Below.refl _ wr).drew) ?_
        first
          | (refine Way.no 0 (by rfl) (by kernel_rfl) (by rfl) ?_; simp only [Act.put, List.setIfInBounds_toArray, List.set_cons_zero, List.set_cons_succ])
          | (refine' Way.yes 0 (by rfl) (by kernel_rfl) (by rfl) (fun wS hS => ?_) ?_
             rotate_left
             · have hS' := (SD.out _).1 hS
               have c1 := (HB1.out.below hS' HB1.out.lt).cell 0
               simp at c1
               go_simp
               first
                 | exact ⟨rfl, Below.refl _ _⟩
             simp only [Act.put, List.setIfInBounds_toArray, List.set_cons_zero, List.set_cons_succ])
        first
          | (refine Way.no 1 (by rfl) (by kernel_rfl) (by rfl) ?_; simp only [Act.put, List.setIfInBounds_toArray, List.set_cons_zero, List.set_cons_succ])
          | (refine' Way.yes 1 (by rfl) (by kernel_rfl) (by rfl) (fun wS hS => ?_) ?_
             rotate_left
             · have hS' := (SD.out _).1 hS
               have c1 := (HB1.out.below hS' HB1.out.lt).cell 0
               simp at c1
               go_simp
               first
                 | exact ⟨rfl, Below.refl _ _⟩
             simp only [Act.put, List.setIfInBounds_toArray, List.set_cons_zero, List.set_cons_succ])
        first
          | (refine Way.no 2 (by rfl) (by kernel_rfl) (by rfl) ?_; simp only [Act.put, List.setIfInBounds_toArray, List.set_cons_zero, List.set_cons_succ])
          | (refine' Way.yes 2 (by rfl) (by kernel_rfl) (by rfl) (fun wS hS => ?_) ?_
             rotate_left
             · have hS' := (SD.out _).1 hS
               have c1 := (HB1.out.below hS' HB1.out.lt).cell 0
               simp at c1
               go_simp
               first
                 | exact ⟨rfl, Below.refl _ _⟩
             simp only [Act.put, List.setIfInBounds_toArray, List.set_cons_zero, List.set_cons_succ])
        refine Way.move 3 (by rfl) (by kernel_rfl) (by rfl) (fun wA hS => ?_)
        have hA := (SD.out _).1 hS
        go_simp
        try simp only [hwr]
        refine (HHV.out _ _ (HL1.out.below hA).w).mono ?_
        rintro e wB ⟨A2, n2, c2, rfl, hl2, hb2, _⟩
        refine ⟨_, rfl, ?_⟩
        obtain ⟨S1, SD1⟩ : ∃ S : World → Prop, Go.RowKit.Hid (∀ w' : World, S w' ↔ (Below wr.heap.size wr w' ∧ RatL w' A2 n2 c2 (X / d))) := ⟨_, Lib.hid (fun _ => Iff.rfl)⟩
        refine Moved.keep S1 (fun W W' h hb => (SD1.out _).2 ⟨keepb ((SD1.out _).1 h).1 hb, ((SD1.out _).1 h).2.below hb⟩) (fun x h => (SD.out _).2 ((SD1.out _).1 h).1) ((SD1.out _).2 ⟨keepb hA hb2, hl2⟩) ?_
        clear hl2 hb2 hA hS
        first
          | (refine Way.no 4 (by rfl) (by kernel_rfl) (by rfl) ?_; simp only [Act.put, List.setIfInBounds_toArray, List.set_cons_zero, List.set_cons_succ])
          | (refine' Way.yes 4 (by rfl) (by kernel_rfl) (by rfl) (fun wS hS => ?_) ?_
             rotate_left
             · have hS' := (SD1.out _).1 hS
               go_simp
               first
                 | exact ⟨rfl, Below.refl _ _⟩
             simp only [Act.put, List.setIfInBounds_toArray, List.set_cons_zero, List.set_cons_succ])
        first
          | (refine Way.no 5 (by rfl) (by kernel_rfl) (by rfl) ?_; simp only [Act.put, List.setIfInBounds_toArray, List.set_cons_zero, List.set_cons_succ])
          | (refine' Way.yes 5 (by rfl) (by kernel_rfl) (by rfl) (fun wS hS => ?_) ?_
             rotate_left
             · have hS' := (SD1.out _).1 hS
               go_simp
               first
                 | exact ⟨rfl, Below.refl _ _⟩
             simp only [Act.put, List.setIfInBounds_toArray, List.set_cons_zero, List.set_cons_succ])
        first
          | (refine Way.no 6 (by rfl) (by kernel_rfl) (by rfl) ?_; simp only [Act.put, List.setIfInBounds_toArray, List.set_cons_zero, List.set_cons_succ])
          | (refine' Way.yes 6 (by rfl) (by kernel_rfl) (by rfl) (fun wS hS => ?_) ?_
             rotate_left
             · have hS' := (SD1.out _).1 hS
               go_simp
               first
                 | exact ⟨rfl, Below.refl _ _⟩
             simp only [Act.put, List.setIfInBounds_toArray, List.set_cons_zero, List.set_cons_succ])
        refine Way.move 7 (by rfl) (by kernel_rfl) (by rfl) (fun wA hS => ?_)
        have hA := (SD1.out _).1 hS
        have kA := HB1.out.below hA.1 HB1.out.lt
        have kB := HB2.out.below hA.1 HB2.out.lt
        have c1 := kA.cell 0
        have f1 := kA.frozen 0
        clear hS
        go_simp
        obtain ⟨S2, SD2⟩ : ∃ S : World → Prop, Go.RowKit.Hid (∀ w' : World, S w' ↔ (Blk w' w.heap.size 31 #[.slice A2 n2 c2] ∧ Blk w' (w.heap.size + 1) 31 #[.slice none 0 0] ∧ RatL w' A2 n2 c2 (X / d) ∧ Below w.heap.size w w')) := ⟨_, Lib.hid (fun _ => Iff.rfl)⟩
        refine Moved.turn S2 (fun W W' h hb => by
          obtain ⟨h1, h2, h3, h4⟩ := (SD2.out _).1 h
          exact (SD2.out _).2 ⟨h1.below hb h1.lt, h2.below hb h2.lt, h3.below hb, keepb h4 hb⟩) (by kernel_rfl) ((SD2.out _).2 ⟨kA.set1 0 _, kB.far (by simp) _, hA.2.set kA (by decide) _, (keepb HBW.out hA.1).setCell (Nat.le_refl _) _⟩) ?_
        clear hA kA kB c1 f1
        simp only [Act.put, List.setIfInBounds_toArray, List.set_cons_zero, List.set_cons_succ]
        first
          | (refine Way.no 8 (by rfl) (by kernel_rfl) (by rfl) ?_; simp only [Act.put, List.setIfInBounds_toArray, List.set_cons_zero, List.set_cons_succ])
          | (refine' Way.yes 8 (by rfl) (by kernel_rfl) (by rfl) (fun wS hS => ?_) ?_
             rotate_left
             · have hS' := (SD2.out _).1 hS
               go_simp
               first
                 | exact ⟨rfl, Below.refl _ _⟩
             simp only [Act.put, List.setIfInBounds_toArray, List.set_cons_zero, List.set_cons_succ])
        refine Way.done (by kernel_rfl) (fun wE hS => ?_)
        obtain ⟨k1, k2, hl2, hb2⟩ := (SD2.out _).1 hS
        have K1 := Lib.hid k1
        have K2 := Lib.hid k2
        have HL2 := Lib.hid hl2
        have HBN := Lib.hid hb2
        clear hS k1 k2 hl2 hb2
        have hk8 := HK8.out
        have hd := HD.out
        obtain ⟨E, hE⟩ : ∃ E, D - s = E := ⟨_, rfl⟩
        have ei : (D : Int) - (s : Int) = (E : Int) := by omega
        have hDI : (E : Int) ≤ 8192 := by omega
        have HE := Lib.hid (show K - (j + s) = E by omega)
        have HJS := Lib.hid (show j + s ≤ K by omega)
        have HED := Lib.hid (show E < D by omega)
        clear hE hk8 hd
        cases los
        all_goals
          go_wp2_with fail
          go_roundw
          case rel => exact ⟨j + s, A2, n2, c2, HJS.out, by rw [HE.out], by rw [HR.out]; simp, by rw [← HQ.out]; exact HL2.out, K1.out, K2.out, HBN.out⟩
          case measure => simp [intOf]; exact HED.out
/-- Down, as the law's rows call it. -/
theorem rdown_nat (v : Value) (x N K : Nat) (k : Int) (w : World) (hv : RatW w v x) (hx : x < B4 ^ N) (hN : N ≤ 10000) (hk : (k < 0 ∧ K = 0) ∨ (0 ≤ k ∧ k ≤ 8192 ∧ k = (K : Int)) ∨ (8192 < k ∧ K = 8192)) :
    Calls Tryd.prog 37 #[v, .int .i64 k] w (DownP x K w) := rdown_core v x N K k w hv hx hN hk
end Go.Proofs.YtgihkmofpncobaaDoor
