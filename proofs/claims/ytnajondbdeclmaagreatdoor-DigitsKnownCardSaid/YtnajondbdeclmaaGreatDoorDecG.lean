/- The walk of dec.ten. The walk of dec.ratio. The walk of dec.ratio. -/
import Derived.Test.YtnajondbdeclmaaGreatDoorDecD
import Derived.Test.YtnajondbdeclmaaGreatDoorNatP
import Derived.Test.YtnajondbdeclmaaGreatDoorNatO
import Derived.Test.YtnajondbdeclmaaGreatDoorCalm
import Derived.Deep.DeepCutAuto
namespace Go.Proofs.YtnajondbdeclmaaGreatDoor
open Go.RowKit
set_option linter.unusedSimpArgs false
set_option linter.unusedVariables false

set_option maxRecDepth 100000 in
theorem ten_nat (n : Nat) (w : World) (hn : n ≤ 2000) : Calls Tryz.prog 115 #[.int .i64 (n : Int)] w (NatV (10 ^ n) w) := by
  have HO := Lib.hid (fun W => power_ten n W hn)
  have HK0 := Lib.hid (Blk.new w 75 #[.slice none 0 0])
  have HB0 := Lib.hid ((Below.refl _ w).alloc (Nat.le_refl _) (.cells #[.slice none 0 0] 75))
  clear hn
  go_enter Tryz.func115, Tryz.ntmps115
  go_wp2_with fail
  refine (HO.out _).mono ?_
  rintro e w1 ⟨v, rfl, hv, hb1⟩
  obtain ⟨A1, n1, c1, rfl, hl1⟩ := hv
  have HK1 := Lib.hid ((HK0.out.below hb1 HK0.out.lt).alloc (.cells #[.slice A1 n1 c1] 75))
  have HB1 := Lib.hid ((keepb HB0.out hb1).alloc (keepb HB0.out hb1).size (.cells #[.slice A1 n1 c1] 75))
  have HL1 := Lib.hid (hl1.below (below_new w1 (.cells #[.slice A1 n1 c1] 75)))
  clear hb1 hl1
  have hcl : (w1.alloc (.cells #[.slice A1 n1 c1] 75)).cell? ⟨w.heap.size, 0, none⟩ = some (.slice none 0 0) := HK1.out.cell 0
  have hfr := HK1.out.frozen 0
  go_wp2_with fail
  have hp := HK1.out.put (i := 0) (by simp) (.slice A1 n1 c1)
  have hW := (show NatW _ (.agg #[.slice A1 n1 c1]) (10 ^ n) from ⟨A1, n1, c1, rfl, HL1.out⟩).set HK1.out (by decide) (i := 0) (.slice A1 n1 c1)
  exact bodyPost_ret (v := .agg #[.slice A1 n1 c1]) (by simp [results, Tryz.results115, go_sem, hp]) rfl ⟨_, rfl, hW, HB1.out.setCell (p := ⟨w.heap.size, 0, none⟩) (Nat.le_refl _) _⟩
end Go.Proofs.YtnajondbdeclmaaGreatDoor

namespace Go.Proofs.YtnajondbdeclmaaGreatDoor
open Go.RowKit
set_option linter.unusedSimpArgs false
set_option linter.unusedVariables false
attribute [local go_sem] SGives_value SGives_skip SGives_enter

def cutV (c : Nat × Int × Bool) : Value := .agg #[.int .u64 (c.1 : Nat), .int .i64 c.2.1, .bool c.2.2]
/-- The numbers of ratio. -/
structure RN (A B u1 u2 q r lq K j : Nat) (p kk : Int) : Prop where
  e_p : p = 66 - ((blen A : Nat) - (blen B : Nat) : Int)
  e_u1 : u1 = p.toNat
  e_u2 : u2 = (-p).toNat
  e_q : q = A * 2 ^ u1 / (B * 2 ^ u2)
  e_r : r = A * 2 ^ u1 % (B * 2 ^ u2)
  e_lq : lq = blen q
  lqa : 66 ≤ lq
  lqb : lq ≤ 67
  e_kk : kk = max ((lq : Int) - 53 - p) (-1074)
  e_K : K = (kk + p).toNat
  e_K' : (K : Int) = kk + p
  K0 : 13 ≤ K
  e_j : j = (kk + 1074).toNat
  e_j' : (j : Int) = kk + 1074
  jb : j ≤ 2060
theorem rn_make {A B : Nat} (hA : 0 < A) (hB : 0 < B) (lA : blen A ≤ 4000) (lB : blen B ≤ 4000) (hR : blen A ≤ blen B + 1030) : ∃ u1 u2 q r lq K j p kk, RN A B u1 u2 q r lq K j p kk := by
  obtain ⟨p, hp⟩ : ∃ p : Int, p = 66 - ((blen A : Nat) - (blen B : Nat) : Int) := ⟨_, rfl⟩
  have h1 : blen (A * 2 ^ p.toNat) = blen A + p.toNat := blen_mul _ _ (by omega)
  have h2 : blen (B * 2 ^ (-p).toNat) = blen B + (-p).toNat := blen_mul _ _ (by omega)
  have g1 := blen_lt (A * 2 ^ p.toNat)
  have g2 := blen_ge (x := A * 2 ^ p.toNat) (Nat.pos_iff_ne_zero.1 (Nat.mul_pos hA (Nat.pow_pos (by omega))))
  have g3 := blen_lt (B * 2 ^ (-p).toNat)
  have hdp : 0 < B * 2 ^ (-p).toNat := Nat.mul_pos hB (Nat.pow_pos (by omega))
  have g4 := blen_ge (x := B * 2 ^ (-p).toNat) (Nat.pos_iff_ne_zero.1 hdp)
  rw [h1] at g1 g2
  rw [h2] at g3 g4
  have hAp := blen_pos (x := A) (by omega)
  have hBp := blen_pos (x := B) (by omega)
  obtain ⟨D, hD⟩ : ∃ D, blen B + (-p).toNat = D + 1 := ⟨blen B + (-p).toNat - 1, by omega⟩
  have hN : blen A + p.toNat = D + 67 := by omega
  rw [hN] at g1 g2
  rw [hD] at g3 g4
  have q1 : 2 ^ 65 ≤ A * 2 ^ p.toNat / (B * 2 ^ (-p).toNat) := by
    rw [Nat.le_div_iff_mul_le hdp]
    refine Nat.le_trans (Nat.mul_le_mul_left _ (Nat.le_of_lt g3)) ?_
    have e : 65 + (D + 1) = D + 67 - 1 := by omega
    rw [← Nat.pow_add, e]
    exact g2
  have q2 : A * 2 ^ p.toNat / (B * 2 ^ (-p).toNat) < 2 ^ 67 := by
    rw [Nat.div_lt_iff_lt_mul hdp]
    refine Nat.lt_of_lt_of_le g1 ?_
    have e : D + 67 = 67 + (D + 1 - 1) := by omega
    rw [e, Nat.pow_add]
    exact Nat.mul_le_mul_left _ g4
  generalize hq : A * 2 ^ p.toNat / (B * 2 ^ (-p).toNat) = q at *
  have l2 := blen_le.2 q2
  have l1 : 66 ≤ blen q := by
    rcases Nat.lt_or_ge (blen q) 66 with h | h
    · exact absurd (blen_le.1 (show blen q ≤ 65 by omega)) (Nat.not_lt.2 q1)
    · exact h
  clear q1 q2 g1 g2 g3 g4
  refine ⟨_, _, q, _, _, _, _, p, max ((blen q : Int) - 53 - p) (-1074), hp, rfl, rfl, hq.symm, rfl, rfl, l1, l2, rfl, rfl, ?_, ?_, rfl, ?_, ?_⟩ <;> omega
set_option maxRecDepth 20000 in
theorem rn_law {A B u1 u2 q r lq K j : Nat} {p kk : Int} (h : RN A B u1 u2 q r lq K j p kk) (hB : 0 < B) :
    (q / 2 ^ K < 2 * P52) ∧ cutP A B = if j * P52 + q / 2 ^ K ≤ most then (j * P52 + q / 2 ^ K, (if q / 2 ^ (K - 1) % 2 = 1 then (if q % 2 ^ (K - 1) ≠ 0 ∨ r ≠ 0 then 1 else 0) else -1), !(decide (q % 2 ^ K ≠ 0) || decide (r ≠ 0))) else (most, 1, false) := by
  have h1 := h.e_p; have h2 := h.e_u1; have h3 := h.e_u2; have h4 := h.e_lq; have h5 := h.e_kk; have h6 := h.e_K'; have h7 := h.e_j'; have h8 := h.K0
  have hl := ratio_law (A := A) (B := B) (u1 := u1) (u2 := u2) (K := K) (j := j) hB h.e_q h.e_r (by omega) (by omega) (by rw [← h4]; omega)
  obtain ⟨e1, e2, e3, e4, e5⟩ := hl
  refine ⟨e3, ?_⟩
  by_cases ho : j * P52 + q / 2 ^ K ≤ most
  · rw [if_pos ho, cutP_at e1 e2 e3 ho, e4]
    congr 2
    rw [Bool.eq_iff_iff, decide_eq_true_eq, e5]
    simp only [Bool.not_eq_true', Bool.or_eq_false_iff, decide_eq_false_iff_not, Decidable.not_not]
  · rw [if_neg ho, cutP_over hB (by rw [e1]; omega)]
end Go.Proofs.YtnajondbdeclmaaGreatDoor

namespace Go.Proofs.YtnajondbdeclmaaGreatDoor
open Go.RowKit
set_option linter.unusedSimpArgs false
set_option linter.unusedVariables false
attribute [local go_sem] SGives_value SGives_skip SGives_enter

theorem NatL.w {w : World} {A : Option Addr} {n c x : Nat} (h : NatL w A n c x) : NatW w (.agg #[.slice A n c]) x := ⟨A, n, c, rfl, h⟩
theorem blk_eta {w : World} {b : Nat} {t : TypeId} {A : Option Addr} {n c : Nat} (h : Blk w b t #[.slice A n c]) : w.cell? ⟨b, 0, none⟩ = some (.slice A n c) ∧ w.frozen? ⟨b, 0, none⟩ = false := ⟨h.cell 0, h.frozen 0⟩
theorem i64_52 (j : Nat) (h : j ≤ 2060) : IntKind.u64.wrap ((j : Int) * 4503599627370496) = ((j * P52 : Nat) : Int) := by
  rw [show (j : Int) * 4503599627370496 = ((j * P52 : Nat) : Int) by unfold P52; omega]
  exact IntWalk.u64_in _ (by unfold P52; omega)
/-- What is left over. -/
def lostB (q r K : Nat) : Bool := decide (q % 2 ^ K ≠ 0) || decide (r ≠ 0)
def halfI (q r K : Nat) : Int := if q / 2 ^ (K - 1) % 2 = 1 then (if q % 2 ^ (K - 1) ≠ 0 ∨ r ≠ 0 then 1 else 0) else -1

set_option maxRecDepth 100000 in
set_option maxHeartbeats 4000000 in
theorem ratio_any (v u : Value) (A B : Nat) (w : World) (hv : NatW w v A) (hu : NatW w u B) (hA : 0 < A) (hB : 0 < B) (lA : blen A ≤ 4000) (lB : blen B ≤ 4000) (hR : blen A ≤ blen B + 1030) :
    Calls Tryz.prog 116 #[v, u] w fun e w' => e = .returned (cutV (cutP A B)) ∧ Below w.heap.size w w' := by
  obtain ⟨An, nn, cn, rfl, hln⟩ := hv
  obtain ⟨Ad, nd, cd, rfl, hld⟩ := hu
  obtain ⟨u1, u2, q, r, lq, K, j, p, kk, h⟩ := rn_make hA hB lA lB hR
  obtain ⟨hm2, hlaw⟩ := rn_law h hB
  have HLAW := Lib.hid (show cutP A B = if j * P52 + q / 2 ^ K ≤ most then (j * P52 + q / 2 ^ K, halfI q r K, !lostB q r K) else (most, 1, false) from hlaw)
  have HM2 := Lib.hid hm2
  have hn1 := blen_pos (x := A) (by omega)
  have hd1 := blen_pos (x := B) (by omega)
  have e1 := h.e_p
  have e2 := h.e_u1
  have e3 := h.e_u2
  have HLN := Lib.hid (fun W (h : NatL W An nn cn A) => len_nat _ A W h.w (by omega))
  have HLD := Lib.hid (fun W (h : NatL W Ad nd cd B) => len_nat _ B W h.w (by omega))
  have HSN := Lib.hid (fun W (h : NatL W An nn cn A) => shl_nat _ A p W h.w (by omega) (by omega))
  have HSD := Lib.hid (fun W (h : NatL W Ad nd cd B) => shl_nat _ B (-p) W h.w (by omega) (by omega))
  have HBN := Lib.hid (show blen (A * 2 ^ u1) ≤ 8192 by rw [blen_mul _ _ (by omega)]; omega)
  have HBD := Lib.hid (show blen (B * 2 ^ u2) ≤ 8192 by rw [blen_mul _ _ (by omega)]; omega)
  have HBP := Lib.hid (show 0 < B * 2 ^ u2 from Nat.mul_pos hB (Nat.pow_pos (by omega)))
  rw [← e2] at HSN
  rw [← e3] at HSD
  have HU1 := Lib.hid (show p < 0 → u1 = 0 by omega)
  have HU2 := Lib.hid (show 0 ≤ p → u2 = 0 by omega)
  have k1 : IntKind.i64.wrap ((blen A : Int) - (blen B : Int)) = 66 - p := by rw [IntWalk.i64_in _ (by omega)]; omega
  have k2 : IntKind.i64.wrap (66 - (66 - p)) = p := by rw [IntWalk.i64_in _ (by omega)]; omega
  have k3 : IntKind.i64.wrap (-p) = -p := IntWalk.i64_in _ (by omega)
  have HK1 := Lib.hid k1
  have HK2 := Lib.hid k2
  have HK3 := Lib.hid k3
  have hpb : -4000 ≤ p ∧ p ≤ 4100 := by omega
  have HPB := Lib.hid hpb
  obtain ⟨tb, htb⟩ : ∃ tb, decide (0 ≤ p) = tb := ⟨_, rfl⟩
  have HTB := Lib.hid htb
  have HH := Lib.hid h
  have HBpos := Lib.hid hB
  clear h hm2 hlaw k1 k2 k3 hpb e1 e2 e3 hA hB lA lB hR hn1 hd1
  have hb0 : Below w.heap.size w (((w.alloc (.cells #[.slice An nn cn] 75)).alloc (.cells #[.slice Ad nd cd] 75)).alloc (.cells #[.int .u64 0, .int .i64 0, .bool false] 107)) := by go_grown
  have hk2 : Blk (((w.alloc (.cells #[.slice An nn cn] 75)).alloc (.cells #[.slice Ad nd cd] 75)).alloc (.cells #[.int .u64 0, .int .i64 0, .bool false] 107)) w.heap.size 75 #[.slice An nn cn] := ((Blk.new w _ _).alloc _).alloc _
  have hk3 : Blk (((w.alloc (.cells #[.slice An nn cn] 75)).alloc (.cells #[.slice Ad nd cd] 75)).alloc (.cells #[.int .u64 0, .int .i64 0, .bool false] 107)) (w.heap.size + 1) 75 #[.slice Ad nd cd] := by
    have := (Blk.new (w.alloc (.cells #[.slice An nn cn] 75)) 75 #[.slice Ad nd cd]).alloc (.cells #[.int .u64 0, .int .i64 0, .bool false] 107)
    rwa [World.size_alloc] at this
  have hk4 : Blk (((w.alloc (.cells #[.slice An nn cn] 75)).alloc (.cells #[.slice Ad nd cd] 75)).alloc (.cells #[.int .u64 0, .int .i64 0, .bool false] 107)) (w.heap.size + 1 + 1) 107 #[.int .u64 0, .int .i64 0, .bool false] := by
    have := Blk.new ((w.alloc (.cells #[.slice An nn cn] 75)).alloc (.cells #[.slice Ad nd cd] 75)) 107 #[.int .u64 0, .int .i64 0, .bool false]
    rwa [World.size_alloc, World.size_alloc] at this
  have HB0 := Lib.hid hb0
  have HK20 := Lib.hid hk2
  have HK30 := Lib.hid hk3
  have HK40 := Lib.hid hk4
  have HN0 := Lib.hid (hln.below hb0)
  have HD0 := Lib.hid (hld.below hb0)
  clear hb0 hk2 hk3 hk4 hln hld
  generalize hW0 : (((w.alloc (.cells #[.slice An nn cn] 75)).alloc (.cells #[.slice Ad nd cd] 75)).alloc (.cells #[.int .u64 0, .int .i64 0, .bool false] 107)) = W0 at *
  go_enter Tryz.func116, Tryz.ntmps116
  go_upto_region 1 with fail
  clear hW0
  obtain ⟨S, SD⟩ : ∃ S : World → Prop, Go.RowKit.Hid (∀ w' : World, S w' ↔ (Blk w' w.heap.size 75 #[.slice An nn cn] ∧ Blk w' (w.heap.size + 1) 75 #[.slice Ad nd cd] ∧ Below W0.heap.size W0 w')) := ⟨_, Lib.hid (fun _ => Iff.rfl)⟩
  have k1 := HK1.out
  have k2 := HK2.out
  refine wp_region_sure (S := S) (by kernel_rfl) (by kernel_rfl) ((SD.out _).2 ⟨HK20.out.drew, HK30.out.drew, (Below.refl _ _).drew⟩) ?_
  repeat
    (first
      | (refine SureL.no (by rfl) ?_; simp only [Act.put, List.setIfInBounds_toArray, List.set_cons_zero, List.set_cons_succ])
      | (refine' SureL.yes (by rfl) (fun wS hS => ?_) ?_
         rotate_left
         · have hS' := (SD.out _).1 hS
           obtain ⟨hS1, hS2, hBS⟩ := hS'
           obtain ⟨c2, f2⟩ := blk_eta hS1
           obtain ⟨c3, f3⟩ := blk_eta hS2
           go_simp
           first
             | exact ⟨rfl, hS⟩
             | (with_reducible refine (HLN.out _ (HN0.out.below hBS)).mono ?_; rintro e w' ⟨rfl, hbn⟩; exact ⟨rfl, (SD.out _).2 ⟨hS1.below hbn hS1.lt, hS2.below hbn hS2.lt, keepb hBS hbn⟩⟩)
             | (with_reducible refine (HLD.out _ (HD0.out.below hBS)).mono ?_; rintro e w' ⟨rfl, hbn⟩; exact ⟨rfl, (SD.out _).2 ⟨hS1.below hbn hS1.lt, hS2.below hbn hS2.lt, keepb hBS hbn⟩⟩)
         simp only [Act.put, List.setIfInBounds_toArray, List.set_cons_zero, List.set_cons_succ]))
  refine SureL.nil ?_
  intro wE hE
  obtain ⟨hS1, hS2, hbw⟩ := (SD.out _).1 hE
  have HS1 := Lib.hid hS1
  have HS2 := Lib.hid hS2
  have HN1 := Lib.hid (HN0.out.below hbw)
  have HD1 := Lib.hid (HD0.out.below hbw)
  have HK41 := Lib.hid (HK40.out.below hbw HK40.out.lt)
  have HB1 := Lib.hid (keepb HB0.out hbw)
  obtain ⟨c2, f2⟩ := blk_eta hS1
  obtain ⟨c3, f3⟩ := blk_eta hS2
  clear hS1 hS2 hbw hE SD S k1 k2
  go_upto_if 24 with fail
  go_cut [25] from 25 to 38 (fun s25 wx => (∃ (An : Option Addr) (nn cn : Nat) (Ad : Option Addr) (nd cd : Nat), Blk wx w.heap.size 75 #[.slice An nn cn] ∧ Blk wx (w.heap.size + 1) 75 #[.slice Ad nd cd] ∧ NatL wx An nn cn (A * 2 ^ u1) ∧ NatL wx Ad nd cd (B * 2 ^ u2)) ∧ Blk wx (w.heap.size + 1 + 1) 107 #[.int .u64 0, .int .i64 0, .bool false] ∧ Below w.heap.size w wx)
  case first =>
    clear htb
    cases tb with
    | true =>
      have HU := Lib.hid (HU2.out (of_decide_eq_true HTB.out))
      go_wp2_with fail
      refine (HSN.out _ HN1.out).mono ?_
      rintro e w1 hm
      obtain ⟨A1, n1, c1, rfl, hl1, hb1⟩ := hm.small HBN.out
      have HX := Lib.hid (HS1.out.below hb1 HS1.out.lt)
      have HY := Lib.hid (HS2.out.below hb1 HS2.out.lt)
      have HZ := Lib.hid (HK41.out.below hb1 HK41.out.lt)
      have HL := Lib.hid hl1
      have HM := Lib.hid (HD1.out.below hb1)
      have HB2 := Lib.hid (keepb HB1.out hb1)
      clear hm hl1 hb1 c2 c3 f2 f3
      obtain ⟨c2, f2⟩ := blk_eta HX.out
      go_wp2_with fail
      go_meet
      refine ⟨⟨A1, n1, c1, Ad, nd, cd, HX.out.set1 0 _, HY.out.far (p := ⟨w.heap.size, 0, none⟩) (by simp) _, HL.out.set HX.out (by decide) _, ?_⟩, HZ.out.far (p := ⟨w.heap.size, 0, none⟩) (by simp <;> omega) _, HB2.out.setCell (p := ⟨w.heap.size, 0, none⟩) (Nat.le_refl _) _⟩
      rw [HU.out, Nat.pow_zero, Nat.mul_one]
      exact HM.out.set HX.out (by decide) _
    | false =>
      have HU := Lib.hid (HU1.out (by have := of_decide_eq_false HTB.out; omega))
      have k3 := HK3.out
      go_wp2_with fail
      refine (HSD.out _ HD1.out).mono ?_
      rintro e w1 hm
      obtain ⟨A1, n1, c1, rfl, hl1, hb1⟩ := hm.small HBD.out
      have HX := Lib.hid (HS1.out.below hb1 HS1.out.lt)
      have HY := Lib.hid (HS2.out.below hb1 HS2.out.lt)
      have HZ := Lib.hid (HK41.out.below hb1 HK41.out.lt)
      have HL := Lib.hid hl1
      have HM := Lib.hid (HN1.out.below hb1)
      have HB2 := Lib.hid (keepb HB1.out hb1)
      clear hm hl1 hb1 c2 c3 f2 f3 k3
      obtain ⟨c2, f2⟩ := blk_eta HY.out
      go_wp2_with fail
      go_meet
      refine ⟨⟨An, nn, cn, A1, n1, c1, HX.out.far (p := ⟨w.heap.size + 1, 0, none⟩) (by simp) _, HY.out.set1 0 _, ?_, HL.out.set HY.out (by decide) _⟩, HZ.out.far (p := ⟨w.heap.size + 1, 0, none⟩) (by simp) _, HB2.out.setCell (p := ⟨w.heap.size + 1, 0, none⟩) (by simp) _⟩
      rw [HU.out, Nat.pow_zero, Nat.mul_one]
      exact HM.out.set HY.out (by decide) _
  case rest =>
    obtain ⟨⟨A1, n1, c1, A2, n2, c2, hx, hy, hl1, hl2⟩, hz, hbx⟩ := hcut
    have HZ := Lib.hid hz
    have HBX := Lib.hid hbx
    obtain ⟨c2, f2⟩ := blk_eta hx
    obtain ⟨c3, f3⟩ := blk_eta hy
    have HDV := Lib.hid (div_nat _ _ (A * 2 ^ u1) (B * 2 ^ u2) _ hl1.w hl2.w (by have := HBN.out; omega) (by have := HBD.out; omega) HBP.out)
    clear hx hy hl1 hl2 hz hbx
    go_wp2_with fail
    refine HDV.out.mono ?_
    rintro e w1 ⟨Aq, nq, cq, Ar, nr, cr, rfl, hq, hr, hb1⟩
    rw [← HH.out.e_q] at hq
    rw [← HH.out.e_r] at hr
    have hbr : Below w1.heap.size w1 ((w1.alloc (.cells #[.slice Aq nq cq] 75)).alloc (.cells #[.slice Ar nr cr] 75)) := by go_grown
    have HQ6 := Lib.hid ((Blk.new w1 75 #[.slice Aq nq cq]).alloc (.cells #[.slice Ar nr cr] 75))
    have HR7 := Lib.hid (show Blk ((w1.alloc (.cells #[.slice Aq nq cq] 75)).alloc (.cells #[.slice Ar nr cr] 75)) (w1.heap.size + 1) 75 #[.slice Ar nr cr] by
      have := Blk.new (w1.alloc (.cells #[.slice Aq nq cq] 75)) 75 #[.slice Ar nr cr]
      rwa [World.size_alloc] at this)
    have HZ2 := Lib.hid (((HZ.out.below hb1 HZ.out.lt).below hbr (Nat.lt_of_lt_of_le HZ.out.lt hb1.size)))
    have HB2 := Lib.hid (keepb (keepb HBX.out hb1) hbr)
    have HQL := Lib.hid (hq.below hbr)
    have HRL := Lib.hid (hr.below hbr)
    clear hq hr hb1 hbr c2 c3 f2 f3 HDV HZ HBX
    generalize hW2 : ((w1.alloc (.cells #[.slice Aq nq cq] 75)).alloc (.cells #[.slice Ar nr cr] 75)) = W2 at *
    obtain ⟨c6, f6⟩ := blk_eta HQ6.out
    have hlq := HH.out.e_lq
    have HLQ := Lib.hid (len_nat _ q W2 HQL.out.w (by have := HH.out.lqb; omega))
    rw [← hlq] at HLQ
    have hlqa : (66 : Int) ≤ (lq : Int) := by have := HH.out.lqa; omega
    have hlqb : (lq : Int) ≤ 67 := by have := HH.out.lqb; omega
    have hpa := HPB.out.1
    have hpb := HPB.out.2
    have hkk : max ((lq : Int) - 53 - p) (-1074) = kk := HH.out.e_kk.symm
    clear hlq
    go_wp2_with fail
    refine HLQ.out.mono ?_
    rintro e w2 ⟨rfl, hb2⟩
    have HQ6b := Lib.hid (HQ6.out.below hb2 HQ6.out.lt)
    have HR7b := Lib.hid (HR7.out.below hb2 HR7.out.lt)
    have HZ3 := Lib.hid (HZ2.out.below hb2 HZ2.out.lt)
    have HB3 := Lib.hid (keepb HB2.out hb2)
    have HQL3 := Lib.hid (HQL.out.below hb2)
    have HRL3 := Lib.hid (HRL.out.below hb2)
    clear hb2 hW2 c6 f6 HLQ HQ6 HR7 HZ2 HB2 HQL HRL
    obtain ⟨c6, f6⟩ := blk_eta HQ6b.out
    go_upto_region 7 with fail
    clear hkk hlqa hlqb
    have hka : -1074 ≤ kk := by have := HH.out.e_kk; omega
    have hkb : kk ≤ 4100 := by have := HH.out.e_kk; have := HH.out.lqb; have := HPB.out; omega
    have hkp : kk + p = (K : Int) := HH.out.e_K'.symm
    have HKN := Lib.hid (show K ≤ 8200 by have := HH.out.e_K'; have := HPB.out; omega)
    have HSH := Lib.hid (nshr_nat _ q (K : Int) _ HQL3.out.w (by have := HH.out.lqb; have := HH.out.e_lq; omega) (by have := HKN.out; omega))
    rw [Int.toNat_natCast] at HSH
    go_wp2_with fail
    refine HSH.out.mono ?_
    rintro e w3 ⟨Am, nm, cm, rfl, hm, hb3⟩
    have HQ6c := Lib.hid ((HQ6b.out.below hb3 HQ6b.out.lt).alloc (.cells #[.slice Am nm cm] 75))
    have HR7c := Lib.hid ((HR7b.out.below hb3 HR7b.out.lt).alloc (.cells #[.slice Am nm cm] 75))
    have HM10 := Lib.hid (Blk.new w3 75 #[.slice Am nm cm])
    have HZ4 := Lib.hid ((HZ3.out.below hb3 HZ3.out.lt).alloc (.cells #[.slice Am nm cm] 75))
    have hbn := below_new w3 (.cells #[.slice Am nm cm] 75)
    have HB4 := Lib.hid (keepb (keepb HB3.out hb3) hbn)
    have HQL4 := Lib.hid ((HQL3.out.below hb3).below hbn)
    have HRL4 := Lib.hid ((HRL3.out.below hb3).below hbn)
    have HML4 := Lib.hid (hm.below hbn)
    have HLO := Lib.hid (show lostB q r K = (decide (q % 2 ^ K ≠ 0) || decide (r ≠ 0)) from rfl)
    clear hm hb3 hbn c6 f6 HSH HQ6b HR7b HZ3 HB3 HQL3 HRL3
    generalize decide (q % 2 ^ K ≠ 0) = l1 at *
    generalize hW4 : (w3.alloc (.cells #[.slice Am nm cm] 75)) = W4 at *
    go_upto_region 8 with fail
    clear hkp hW4
    go_cut [11] from 59 to 65 (fun s11 wy => s11 = .bool (lostB q r K) ∧ Below W4.heap.size W4 wy)
    case first =>
      cases l1 with
      | true =>
        go_wp2_with fail
        go_meet
        exact ⟨by rw [HLO.out]; rfl, Below.refl _ _⟩
      | false =>
        obtain ⟨c7, f7⟩ := blk_eta HR7c.out
        have hrl : blen r ≤ 8192 := by
          have h1 : r < B * 2 ^ u2 := by rw [HH.out.e_r]; exact Nat.mod_lt _ HBP.out
          exact Nat.le_trans (blen_mono (Nat.le_of_lt h1)) HBD.out
        have HLR := Lib.hid (len_nat _ r W4 HRL4.out.w (by omega))
        have t1 : decide ((0 : Int) < ((blen r : Nat) : Int)) = decide (r ≠ 0) := by
          rw [Bool.eq_iff_iff, decide_eq_true_eq, decide_eq_true_eq]
          constructor
          · intro h h0; rw [h0] at h; simp [blen_zero] at h
          · intro h; have := blen_pos h; omega
        have t1' : decide (0 < blen r) = decide (r ≠ 0) := by rw [← t1]; rw [Bool.eq_iff_iff, decide_eq_true_eq, decide_eq_true_eq]; omega
        clear hrl
        generalize decide (r ≠ 0) = l2 at *
        generalize blen r = br at *
        go_wp2_with fail
        refine HLR.out.mono ?_
        rintro e w4 ⟨rfl, hb4⟩
        have HBB := Lib.hid hb4
        clear hb4
        go_wp2_with fail
        all_goals
          go_meet
          exact ⟨by rw [HLO.out]; rfl, HBB.out⟩
    case rest =>
    obtain ⟨rfl, hby⟩ := hcut
    have HQ6d := Lib.hid (HQ6c.out.below hby HQ6c.out.lt)
    have HR7d := Lib.hid (HR7c.out.below hby HR7c.out.lt)
    have HM10d := Lib.hid (HM10.out.below hby HM10.out.lt)
    have HZ5 := Lib.hid (HZ4.out.below hby HZ4.out.lt)
    have HB5 := Lib.hid (keepb HB4.out hby)
    have HQL5 := Lib.hid (HQL4.out.below hby)
    have HRL5 := Lib.hid (HRL4.out.below hby)
    have HML5 := Lib.hid (HML4.out.below hby)
    clear hby HQ6c HR7c HM10 HZ4 HB4 HQL4 HRL4 HML4
    generalize q / 2 ^ K = m at *
    have hm53 := HM2.out
    have hjb := HH.out.jb
    have hW5 := Lib.hid (nword_nat _ (m) _ HML5.out.w (by have := blen_le.2 (show m < 2 ^ 53 from hm53); omega))
    have hwv : wordV (m) = .tuple #[wv (m), .bool true] := by unfold wordV; rw [if_pos (by unfold P52 W64 at *; omega)]
    rw [hwv] at hW5
    have hkj : kk + 1074 = (j : Int) := HH.out.e_j'.symm
    have hsu : IntKind.u64.wrap (((j * P52 : Nat) : Int) + ((m : Nat) : Int)) = ((j * P52 + m : Nat) : Int) := by
      rw [IntWalk.u64_in _ (by unfold P52 at *; omega)]; omega
    have HOV := Lib.hid (show j * P52 + m < 18446744073709551615 by unfold P52 at *; omega)
    have hwu : IntKind.u64.wrap (j : Int) = (j : Int) := IntWalk.u64_in _ (by omega)
    have hsh := i64_52 j hjb
    obtain ⟨c10, f10⟩ := blk_eta HM10d.out
    clear hm53 hjb hwv HLO
    generalize hlb : lostB q r K = lb at *
    have HLBB := Lib.hid hlb
    generalize hjp : j * P52 = jp at *
    generalize hbits : jp + m = bits at *
    have HBITS := Lib.hid hbits
    clear hlb hbits hjp
    go_wp2_with fail
    refine hW5.out.mono ?_
    rintro e w5 ⟨rfl, hb5⟩
    have HQ6e := Lib.hid (HQ6d.out.below hb5 HQ6d.out.lt)
    have HR7e := Lib.hid (HR7d.out.below hb5 HR7d.out.lt)
    have HZ6 := Lib.hid (HZ5.out.below hb5 HZ5.out.lt)
    have HB6 := Lib.hid (keepb HB5.out hb5)
    have HQL6 := Lib.hid (HQL5.out.below hb5)
    have HRL6 := Lib.hid (HRL5.out.below hb5)
    clear hb5 HQ6d HR7d HZ5 HB5 HQL5 HRL5 HML5 HM10d c10 f10 hW5
    go_upto_region 11 with fail
    clear hkj hwu hsh hsu
    have HK14 := Lib.hid (Blk.new w5 107 #[.int .u64 (bits : Int), .int .i64 (-1), .bool !lb])
    have hbn := below_new w5 (.cells #[.int .u64 (bits : Int), .int .i64 (-1), .bool !lb] 107)
    have HQ6f := Lib.hid (HQ6e.out.below hbn HQ6e.out.lt)
    have HR7f := Lib.hid (HR7e.out.below hbn HR7e.out.lt)
    have HZ7 := Lib.hid (HZ6.out.below hbn HZ6.out.lt)
    have HB7 := Lib.hid (keepb HB6.out hbn)
    have HQL7 := Lib.hid (HQL6.out.below hbn)
    have HRL7 := Lib.hid (HRL6.out.below hbn)
    have HLT := Lib.hid (show w.heap.size ≤ w5.heap.size from HB6.out.size)
    have HNE := Lib.hid (show w.heap.size + 1 + 1 ≠ w5.heap.size from Nat.ne_of_lt HZ6.out.lt)
    clear hbn HQ6e HR7e HZ6 HB6 HQL6 HRL6
    generalize hW7 : (w5.alloc (.cells #[.int .u64 (bits : Int), .int .i64 (-1), .bool !lb] 107)) = W7 at *
    have hK0 := HH.out.K0
    have hkp : kk + p = (K : Int) := HH.out.e_K'.symm
    have hK1 : IntKind.i64.wrap ((K : Int) - 1) = ((K - 1 : Nat) : Int) := by rw [IntWalk.i64_in _ (by have := HKN.out; omega)]; omega
    have hK1' : (K : Int) - 1 = ((K - 1 : Nat) : Int) := by omega
    have hKI : (13 : Int) ≤ (K : Int) := by omega
    have hKJ : (K : Int) ≤ 8200 := by have := HKN.out; omega
    have HBT := Lib.hid (bit_nat _ q ((K - 1 : Nat) : Int) _ HQL7.out.w (wf_nat _ (by have := HKN.out; omega)))
    have hbv : bitV q ((K - 1 : Nat) : Int) = decide (q / 2 ^ (K - 1) % 2 = 1) := by
      unfold bitV
      rw [Int.toNat_natCast]
      have : (0 : Int) ≤ ((K - 1 : Nat) : Int) := by omega
      simp [this]
    rw [hbv] at HBT
    have HHI := Lib.hid (show halfI q r K = if decide (q / 2 ^ (K - 1) % 2 = 1) = true then (if q % 2 ^ (K - 1) ≠ 0 ∨ r ≠ 0 then 1 else 0) else -1 by unfold halfI; simp only [decide_eq_true_eq])
    have HSH := Lib.hid (fun W (h : NatL W Aq nq cq q) => nshr_nat _ q ((K - 1 : Nat) : Int) W h.w (by have := HH.out.lqb; have := HH.out.e_lq; omega) (by have := HKN.out; omega))
    simp only [Int.toNat_natCast] at HSH
    generalize decide (q / 2 ^ (K - 1) % 2 = 1) = bb at *
    have HKK := Lib.hid hkp
    clear hK0 hbv
    obtain ⟨c6, f6⟩ := blk_eta HQ6f.out
    go_wp2_with fail
    refine HBT.out.mono ?_
    rintro e w6 ⟨rfl, hb6⟩
    have HK14b := Lib.hid (HK14.out.below hb6 HK14.out.lt)
    have HQ6g := Lib.hid (HQ6f.out.below hb6 HQ6f.out.lt)
    have HR7g := Lib.hid (HR7f.out.below hb6 HR7f.out.lt)
    have HZ8 := Lib.hid (HZ7.out.below hb6 HZ7.out.lt)
    have HB8 := Lib.hid (keepb HB7.out hb6)
    have HQL8 := Lib.hid (HQL7.out.below hb6)
    have HRL8 := Lib.hid (HRL7.out.below hb6)
    clear hb6 hW7 c6 f6 HQ6f HR7f HZ7 HB7 HQL7 HRL7 HBT HK14
    go_upto_if 84 with fail
    go_cut [85] from 85 to 101 (fun s85 wy => Blk wy w5.heap.size 107 #[.int .u64 (bits : Int), .int .i64 (halfI q r K), .bool !lb] ∧ Blk wy (w.heap.size + 1 + 1) 107 #[.int .u64 0, .int .i64 0, .bool false] ∧ Below w.heap.size w wy)
    case first =>
      cases bb with
      | false =>
        have HI := Lib.hid (show halfI q r K = -1 by rw [HHI.out]; rfl)
        go_wp2_with fail
        go_meet
        exact ⟨by rw [HI.out]; exact HK14b.out, HZ8.out, HB8.out⟩
      | true =>
        have HI := Lib.hid (show halfI q r K = if (decide (q % 2 ^ (K - 1) ≠ 0) || decide (r ≠ 0)) = true then 1 else 0 by rw [HHI.out, if_pos rfl]; simp only [Bool.or_eq_true, decide_eq_true_eq])
        obtain ⟨d0, d1, d2, g0, g1, g2⟩ := HK14b.out.three
        obtain ⟨c6, f6⟩ := blk_eta HQ6g.out
        have hne6 : w1.heap.size < w6.heap.size := HQ6g.out.lt
        have hne5 : w1.heap.size ≠ w5.heap.size := fun h => by
          have a := HQ6g.out
          have b := HK14b.out
          rw [h] at a
          unfold Blk at a b
          rw [a] at b
          injection b with b
          injection b with b1 b2
          cases b2
        have HN5 := Lib.hid hne5
        have hne5b : w1.heap.size + 1 ≠ w5.heap.size := fun h => by
          have a := HR7g.out
          have b := HK14b.out
          rw [h] at a
          unfold Blk at a b
          rw [a] at b
          injection b with b
          injection b with b1 b2
          cases b2
        have HN5b := Lib.hid hne5b
        clear hne6 hne5 hne5b
        have HQS := Lib.hid (HQ6g.out.far (p := ⟨w5.heap.size, 1, none⟩) HN5.out (.int .i64 0))
        have HQLS := Lib.hid (HQL8.out.set HK14b.out (by decide) (i := 1) (.int .i64 0))
        have HRLS := Lib.hid (HRL8.out.set HK14b.out (by decide) (i := 1) (.int .i64 0))
        have HKS := Lib.hid (HK14b.out.set1 1 (.int .i64 0))
        have HZS := Lib.hid (HZ8.out.far (p := ⟨w5.heap.size, 1, none⟩) HNE.out (.int .i64 0))
        have HBS := Lib.hid (HB8.out.setCell (p := ⟨w5.heap.size, 1, none⟩) HLT.out (.int .i64 0))
        have hrl : blen r ≤ 8192 := by
          have h1 : r < B * 2 ^ u2 := by rw [HH.out.e_r]; exact Nat.mod_lt _ HBP.out
          exact Nat.le_trans (blen_mono (Nat.le_of_lt h1)) HBD.out
        have HLR := Lib.hid (fun W (h : NatL W Ar nr cr r) => len_nat _ r W h.w (by omega))
        have ht1 : decide ((0 : Int) < ((blen r : Nat) : Int)) = decide (r ≠ 0) := by
          rw [Bool.eq_iff_iff, decide_eq_true_eq, decide_eq_true_eq]
          constructor
          · intro h h0; rw [h0] at h; simp [blen_zero] at h
          · intro h; have := blen_pos h; omega
        have ht1' : decide (0 < blen r) = decide (r ≠ 0) := by rw [← ht1]; rw [Bool.eq_iff_iff, decide_eq_true_eq, decide_eq_true_eq]; omega
        have HT1 := Lib.hid ht1
        have HT1' := Lib.hid ht1'
        clear hrl ht1 ht1'
        have hkp := HKK.out
        generalize decide (r ≠ 0) = l2 at *
        generalize blen r = br at *
        have c6' : (w6.setCell ⟨w5.heap.size, 1, none⟩ (.int .i64 0)).cell? ⟨w1.heap.size, 0, none⟩ = some (.slice Aq nq cq) := HQS.out.cell 0
        go_wp2_with fail
        refine (HSH.out _ HQLS.out).mono ?_
        rintro e w7 ⟨Ax, nx, cx, rfl, hx7, hb7⟩
        generalize decide (q % 2 ^ (K - 1) ≠ 0) = l1 at *
        have hbn := below_new w7 (.cells #[.slice Ax nx cx] 75)
        have HKU := Lib.hid ((HKS.out.below hb7 HKS.out.lt).below hbn (Nat.lt_of_lt_of_le HKS.out.lt hb7.size))
        have HZU := Lib.hid ((HZS.out.below hb7 HZS.out.lt).below hbn (Nat.lt_of_lt_of_le HZS.out.lt hb7.size))
        have HBU := Lib.hid (keepb (keepb HBS.out hb7) hbn)
        have HRU := Lib.hid ((HRLS.out.below hb7).below hbn)
        have HR7u := Lib.hid (((HR7g.out.far (p := ⟨w5.heap.size, 1, none⟩) HN5b.out (.int .i64 0)).below hb7 (by have := HR7g.out.lt; simpa [World.setCell] using this)).below hbn (Nat.lt_of_lt_of_le (by have := HR7g.out.lt; simpa [World.setCell] using this) hb7.size))
        clear hb7 hbn hx7 hkp c6 c6' f6 d0 d1 d2 g0 g1 g2
        generalize hW8 : (w7.alloc (.cells #[.slice Ax nx cx] 75)) = W8 at *
        cases l1 with
        | true =>
          have HI := Lib.hid (show halfI q r K = 1 by rw [HI.out]; rfl)
          have HKT := Lib.hid (HKU.out.set1 1 (.int .i64 1))
          obtain ⟨d0, d1, d2, g0, g1, g2⟩ := HKU.out.three
          go_wp2_with fail
          go_meet
          exact ⟨by rw [HI.out]; exact HKT.out, HZU.out.far (p := ⟨w5.heap.size, 1, none⟩) HNE.out _, HBU.out.setCell (p := ⟨w5.heap.size, 1, none⟩) HLT.out _⟩
        | false =>
          obtain ⟨c7, f7⟩ := blk_eta HR7u.out
          have t1 := HT1.out
          have t1' := HT1'.out
          go_wp2_with fail
          refine (HLR.out _ HRU.out).mono ?_
          rintro e w8 ⟨rfl, hb8⟩
          have HKU := Lib.hid (HKU.out.below hb8 HKU.out.lt)
          have HZU := Lib.hid (HZU.out.below hb8 HZU.out.lt)
          have HBU := Lib.hid (keepb HBU.out hb8)
          clear hb8 c7 f7 hW8
          cases l2 with
          | true =>
            have HI := Lib.hid (show halfI q r K = 1 by rw [HI.out]; rfl)
            have HKT := Lib.hid (HKU.out.set1 1 (.int .i64 1))
            obtain ⟨d0, d1, d2, g0, g1, g2⟩ := HKU.out.three
            go_wp2_with fail
            go_meet
            exact ⟨by rw [HI.out]; exact HKT.out, HZU.out.far (p := ⟨w5.heap.size, 1, none⟩) HNE.out _, HBU.out.setCell (p := ⟨w5.heap.size, 1, none⟩) HLT.out _⟩
          | false =>
            have HI := Lib.hid (show halfI q r K = 0 by rw [HI.out]; rfl)
            go_wp2_with fail
            go_meet
            exact ⟨by rw [HI.out]; exact HKU.out, HZU.out, HBU.out⟩
    case rest =>
    obtain ⟨hk, hz, hb⟩ := hcut
    have HKF := Lib.hid hk
    have HZF := Lib.hid hz
    have HBF := Lib.hid hb
    have HCC := HLAW
    obtain ⟨d0, d1, d2, g0, g1, g2⟩ := hk.three
    obtain ⟨a0, a1, a2, b0, b1, b2⟩ := hz.three
    clear hk hz hb
    generalize halfI q r K = hf at *
    by_cases ho : bits ≤ most
    · have t1 : decide ((9218868437227405311 : Int) < (bits : Int)) = false := decide_eq_false (by unfold most at ho; omega)
      have t1' : decide (9218868437227405311 < bits) = false := decide_eq_false (by unfold most at ho; omega)
      have HC := Lib.hid (show cutP A B = (bits, hf, !lb) by rw [HCC.out, if_pos ho])
      clear ho
      go_simp
      repeat go_step
      obtain ⟨x0, x1, x2⟩ := HZF.out.put3 (.int .u64 (bits : Int)) (.int .i64 hf) (.bool !lb)
      exact bodyPost_ret (v := .agg #[.int .u64 (bits : Int), .int .i64 hf, .bool !lb]) (by simp [results, Tryz.results116, go_sem, x0, x1, x2]) rfl ⟨by rw [HC.out] <;> rfl, below_put3 HBF.out (by omega) _ _ _⟩
    · have t1 : decide ((9218868437227405311 : Int) < (bits : Int)) = true := decide_eq_true (by unfold most at ho; omega)
      have t1' : decide (9218868437227405311 < bits) = true := decide_eq_true (by unfold most at ho; omega)
      have HC := Lib.hid (show cutP A B = (most, 1, false) by rw [HCC.out, if_neg ho])
      clear ho
      go_simp
      repeat go_step
      obtain ⟨x0, x1, x2⟩ := HZF.out.put3 (.int .u64 9218868437227405311) (.int .i64 1) (.bool false)
      exact bodyPost_ret (v := .agg #[.int .u64 9218868437227405311, .int .i64 1, .bool false]) (by simp [results, Tryz.results116, go_sem, x0, x1, x2]) rfl ⟨by rw [HC.out] <;> rfl, below_put3 HBF.out (by omega) _ _ _⟩
end Go.Proofs.YtnajondbdeclmaaGreatDoor
