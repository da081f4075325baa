/- The document's natural numbers: the text of a number. -/
import Derived.Test.YtgihkmofpncobaaDoorNRM
import Derived.Test.YtgihkmofpncobaaDoorText
namespace Go.Proofs.YtgihkmofpncobaaDoor
open Go.RowKit
set_option linter.unusedSimpArgs false
set_option linter.unusedVariables false

/-- The four digits of a figure. -/
def D4 (m : Nat) : List UInt8 := [dch (m / 1000), dch (m / 100 % 10), dch (m / 10 % 10), dch (m % 10)]
theorem D4_len (m : Nat) : (D4 m).length = 4 := rfl
theorem dch_isD {d : Nat} (h : d < 10) : isD (dch d) = true := by unfold isD; rw [dch_toNat h]; simp; omega
theorem D4_digits {m : Nat} (h : m < B4) : ∀ c ∈ D4 m, isD c = true := by
  unfold B4 at h
  intro c hc
  simp only [D4, List.mem_cons, List.not_mem_nil, or_false] at hc
  rcases hc with rfl | rfl | rfl | rfl <;> exact dch_isD (by omega)
theorem D4_val {m : Nat} (h : m < B4) : dval (D4 m) = m := by
  unfold B4 at h
  unfold D4 dval
  simp only [List.foldl_cons, List.foldl_nil]
  rw [dch_toNat (show m / 1000 < 10 by omega), dch_toNat (show m / 100 % 10 < 10 by omega), dch_toNat (show m / 10 % 10 < 10 by omega), dch_toNat (show m % 10 < 10 by omega)]
  omega
theorem fig_next (x j : Nat) : x / B4 ^ j = x / B4 ^ (j + 1) * B4 + x / B4 ^ j % B4 := by
  rw [Nat.pow_succ, ← Nat.div_div_eq_div_mul, Nat.mul_comm]
  exact (Nat.div_add_mod _ _).symm
theorem text_next {t : List UInt8} {x j : Nat} (h : dval t = x / B4 ^ (j + 1)) : dval (t ++ D4 (x / B4 ^ j % B4)) = x / B4 ^ j := by
  rw [dval_append, D4_len, D4_val (Nat.mod_lt _ (by decide)), h]
  exact (fig_next x j).symm
theorem okb0 : okB (.int .u8 0) := ⟨0, rfl⟩
theorem bv_dch {d : Nat} (h : d < 10) : bv (dch d) = .int .u8 (48 + (d : Int)) := by
  show Value.int .u8 ((dch d).toNat : Int) = _
  rw [dch_toNat h]; rfl
/-- A row of bytes without its first. -/
theorem RB.tail1 {w : World} {B : Nat} {A : Option Addr} {n : Nat} {b : UInt8} {bs : List UInt8} (h : RB w B A (n + 1) (b :: bs)) {c : Nat} (hc : n + 1 ≤ c) : RB w B (if c = 1 then A else Option.map (fun x => x.add 1) A) n bs := by
  obtain ⟨hl, hx⟩ := h
  refine ⟨by simpa using hl, fun hn => ?_⟩
  obtain ⟨g, o, rfl, hg, hcell⟩ := hx (by omega)
  refine ⟨g, o + 1, ?_, hg, fun j hj => ?_⟩
  · rw [if_neg (by omega)]; rfl
  · have := hcell (j + 1) (by simp; omega)
    rw [show o + 1 + j = o + (j + 1) by omega, this]; rfl

set_option maxRecDepth 4000000 in
set_option maxHeartbeats 4000000 in
theorem rtext_core (v : Value) (x N : Nat) (w : World) (hv : RatW w v x) (hx : x < B4 ^ N) (hN : N ≤ 10000) :
    Calls Tryd.prog 9 #[v] w fun e w' => e = .returned (.string ⟨(dtext x).toArray⟩) ∧ Below w.heap.size w w' := by
  obtain ⟨A, n, c, rfl, hl⟩ := hv
  have hn : n ≤ 10000 := Nat.le_trans (hl.len hx) hN
  have hXn := hl.lt
  have hnI : (n : Int) ≤ 10000 := by omega
  obtain ⟨W0, hW0⟩ : ∃ W0, w.alloc (.cells #[.slice A n c] 31) = W0 := ⟨_, rfl⟩
  have HA := Lib.hid (show Blk W0 w.heap.size 31 #[.slice A n c] by rw [← hW0]; exact Blk.new _ _ _)
  have HB0 := Lib.hid (show Below w.heap.size w W0 by rw [← hW0]; exact below_new _ _)
  have HS0 := Lib.hid (show W0.heap.size = w.heap.size + 1 by rw [← hW0]; simp)
  have HL := Lib.hid (hl.below HB0.out)
  have HXN := Lib.hid hXn
  clear hl hx hXn
  go_enter Tryd.func9, Tryd.ntmps9
  have ca := HA.out.cell 0
  simp at ca
  go_wp2_with fail
  clear hW0
  go_loopw [3, 4] (fun s3 s4 wr => ∃ (j : Nat) (t : List UInt8), s4 = .int .i64 ((j : Int) - 1) ∧ j ≤ n ∧ (∀ u ∈ t, isD u = true) ∧ t.length = 4 * (n - j) ∧ dval t = x / B4 ^ j ∧ OwnR wr (w.heap.size + 1) 5 okB s3 t.length (t.map bv) ∧ Below W0.heap.size W0 wr) (fun _ s4 _ => (intOf s4 + 1).toNat)
  case atStart => exact ⟨n, [], rfl, Nat.le_refl _, fun u hu => by simp at hu, by simp, by rw [Nat.div_eq_of_lt HXN.out]; rfl, OwnR.nil _ _ _ _, Below.refl _ _⟩
  case round =>
    obtain ⟨j, t, rfl, hj, hd, ht, hv, hu, hb⟩ := hrel
    obtain ⟨wo, rfl⟩ : ∃ wo : World, wo = wr := ⟨_, rfl⟩
    obtain ⟨A1, c1, hu', hc1⟩ := hu.shape
    subst hu'
    have HD := Lib.hid hd
    have HT := Lib.hid ht
    have HVV := Lib.hid hv
    have HU := Lib.hid hu
    have HBE := Lib.hid hb
    have HAB := Lib.hid (HA.out.below hb HA.out.lt)
    have cb := HAB.out.cell 0
    simp at cb
    have hbsz := hb.size
    have HSZ := Lib.hid (show w.heap.size + 1 ≤ wo.heap.size by have := HA.out.lt; omega)
    clear hd hv hu hb ca
    cases j with
    | succ i =>
      have HLr := Lib.hid (HL.out.below HBE.out)
      obtain ⟨g, o, rfl, hl0⟩ := HLr.out.fig (j := i) (by omega)
      have hm : x / B4 ^ i % B4 < B4 := Nat.mod_lt _ (by decide)
      have HM := Lib.hid hm
      have HNX := Lib.hid (text_next HVV.out)
      generalize x / B4 ^ i % B4 = m at *
      have hm4 : (m : Int) < 10000 := by unfold B4 at hm; omega
      have e0 : ((i + 1 : Nat) : Int) - 1 = (i : Int) := by omega
      rw [e0]
      have t1 : decide ((0 : Int) ≤ (i : Int)) = true := decide_eq_true (by omega)
      have q1 : (i : Int) < n := by omega
      have d1 : m / 1000 < 10 := by omega
      have d2 : m / 100 % 10 < 10 := by omega
      have d3 : m / 10 % 10 < 10 := by omega
      have d4 : m % 10 < 10 := by omega
      have e1 : (m : Int) / 1000 = ((m / 1000 : Nat) : Int) := by omega
      have e1' : Int.tdiv (m : Int) 1000 = ((m / 1000 : Nat) : Int) := by rw [Int.tdiv_eq_ediv_of_nonneg (by omega)]; omega
      have e2 : (m : Int) / 100 = ((m / 100 : Nat) : Int) := by omega
      have e2' : Int.tdiv (m : Int) 100 = ((m / 100 : Nat) : Int) := by rw [Int.tdiv_eq_ediv_of_nonneg (by omega)]; omega
      have e3 : (m : Int) / 10 = ((m / 10 : Nat) : Int) := by omega
      have e3' : Int.tdiv (m : Int) 10 = ((m / 10 : Nat) : Int) := by rw [Int.tdiv_eq_ediv_of_nonneg (by omega)]; omega
      have e4 : (m : Int) % 10 = ((m % 10 : Nat) : Int) := by omega
      have e4' : Int.tmod (m : Int) 10 = ((m % 10 : Nat) : Int) := by rw [Int.tmod_eq_emod_of_nonneg (by omega)]; omega
      have e5' : Int.tmod ((m / 100 : Nat) : Int) 10 = ((m / 100 % 10 : Nat) : Int) := by rw [Int.tmod_eq_emod_of_nonneg (by omega)]; omega
      have e5 : ((m / 100 : Nat) : Int) % 10 = ((m / 100 % 10 : Nat) : Int) := by omega
      have e6' : Int.tmod ((m / 10 : Nat) : Int) 10 = ((m / 10 % 10 : Nat) : Int) := by rw [Int.tmod_eq_emod_of_nonneg (by omega)]; omega
      have e6 : ((m / 10 : Nat) : Int) % 10 = ((m / 10 % 10 : Nat) : Int) := by omega
      have HDD : Hid ((D4 m).map bv = [.int .u8 (48 + ((m / 1000 : Nat) : Int)), .int .u8 (48 + ((m / 100 % 10 : Nat) : Int)), .int .u8 (48 + ((m / 10 % 10 : Nat) : Int)), .int .u8 (48 + ((m % 10 : Nat) : Int))]) := Lib.hid (by
        unfold D4; simp only [List.map_cons, List.map_nil]; rw [bv_dch d1, bv_dch d2, bv_dch d3, bv_dch d4])
      generalize hx1 : m / 1000 = y1 at *
      generalize hx2 : m / 100 % 10 = y2 at *
      generalize hx3 : m / 10 % 10 = y3 at *
      generalize hx4 : m % 10 = y4 at *
      clear hx1 hx2 hx3 hx4
      generalize m / 100 = z2 at *
      generalize m / 10 = z3 at *
      have w1 : ((48 + (y1 : Int)) : Int) < 58 := by omega
      have w2 : ((48 + (y2 : Int)) : Int) < 58 := by omega
      have w3 : ((48 + (y3 : Int)) : Int) < 58 := by omega
      have w4 : ((48 + (y4 : Int)) : Int) < 58 := by omega
      have HJ := Lib.hid hj
      have hni : t.length = 4 * (n - i) - 4 := by omega
      have HNI := Lib.hid hni
      have hti : t.length ≤ 40000 := by omega
      clear hm hj ht hni
      go_wp2_with (at_builtin; refine wpList_app ei_u8 okb0 rfl (.tmp 19) (.tmp 38) rfl (w.heap.size + 1) _ _ _ rfl (HU.out.below (below_new _ _)) _ _ _ _ _ rfl (RV.fresh wo 5 [.int .u8 (48 + (y1 : Int)), .int .u8 (48 + (y2 : Int)), .int .u8 (48 + (y3 : Int)), .int .u8 (48 + (y4 : Int))]) (fun u hu => by simp at hu; rcases hu with rfl | rfl | rfl | rfl <;> rfl) (show t.length + 4 ≤ _ by omega) (show (t.length + 4) * 1 ≤ _ by omega) (by have := HSZ.out; simp; omega) ?_; intro A3 c3 w3 hu3 hg3 ha3)
      go_roundw
      case rel =>
        refine ⟨i, t ++ D4 m, by go_num, by have := HJ.out; omega, ?_, ?_, HNX.out, ?_, ?_⟩
        · intro u hu
          rcases List.mem_append.1 hu with h | h
          · exact HD.out u h
          · exact D4_digits HM.out u h
        · rw [List.length_append, D4_len, HNI.out]; have := HJ.out; omega
        · rw [List.length_append, D4_len, List.map_append, HDD.out]; exact hu3
        · exact (HBE.out.alloc HBE.out.size _).grown hg3 (by have := HBE.out.size; simp; omega) (fun k hk => by have h1 := HU.out.lt k hk; have h2 := HA.out.lt; have h3 := HS0.out; omega)
      case measure => simp [intOf]
    | zero =>
      have hv0 : dval t = x := by have := HVV.out; rwa [Nat.pow_zero, Nat.div_one] at this
      have HV0 := Lib.hid hv0
      have HRB := Lib.hid HU.out.rv.rb
      have HB9 := Lib.hid (keepb HB0.out HBE.out)
      have t1 : decide ((0 : Int) ≤ ((0 : Nat) : Int) - 1) = false := rfl
      have ht4 : t.length ≤ 40000 := by omega
      clear hj ht hbsz hv0
      go_wp2_with fail
      go_loopg [3] t.length (fun k s3 wr => ∃ (A : Option Addr) (c : Nat) (u : List UInt8), s3 = .slice A k c ∧ k ≤ c ∧ k ≤ 40000 ∧ (∀ b ∈ u, isD b = true) ∧ dval u = x ∧ RB wo wo.heap.size A k u ∧ wo = wr)
      case atStart => exact ⟨A1, c1, t, rfl, hc1, ht4, HD.out, HV0.out, HRB.out, rfl⟩
      case round =>
        obtain ⟨A2, c2, u, rfl, hkc, hk4, hdu, hvu, hrb, hww⟩ := hrel
        subst hww
        obtain ⟨k, rfl⟩ : ∃ k : Nat, k = gk := ⟨_, rfl⟩
        cases u with
        | nil =>
          obtain rfl : k = 0 := hrb.1.symm
          have HDX : Hid (dtext x = [48]) := Lib.hid (by rw [← hvu]; rfl)
          clear hvu hrb hdu
          go_wp2_with fail
          go_ret
          exact ⟨by rw [HDX.out]; rfl, HB9.out⟩
        | cons b u =>
          obtain ⟨j, rfl⟩ : ∃ j, k = j + 1 := ⟨u.length, by have := hrb.1; simpa using this.symm⟩
          have HRT := Lib.hid (hrb.tail1 (c := c2) hkc)
          have HRF := Lib.hid hrb
          obtain ⟨g, o, rfl, _, hcell⟩ := hrb.2 (by omega)
          have hb0 := hcell 0 (by simp)
          simp only [Nat.add_zero, List.getElem_cons_zero] at hb0
          have HDU := Lib.hid hdu
          have HVU := Lib.hid hvu
          have HJ4 := Lib.hid hk4
          have t2 : decide ((0 : Int) < ((j + 1 : Nat) : Int)) = true := decide_eq_true (by omega)
          have t2' : decide (0 < j + 1) = true := decide_eq_true (by omega)
          clear hcell hdu hvu hrb
          by_cases h48 : b.toNat = 48
          · have hv : bv b = .int .u8 48 := by show Value.int .u8 (b.toNat : Int) = _; rw [h48]; rfl
            rw [hv] at hb0
            have HV2 : Hid (dval u = x) := Lib.hid (by
              rw [← HVU.out]
              have h1 := dval_append [b] u
              have h3 : dval [b] = 0 := by simp [dval, h48]
              rw [h3, Nat.zero_mul, Nat.zero_add] at h1
              exact h1.symm)
            clear hv h48
            by_cases hc1 : c2 = 1
            · obtain rfl : j = 0 := by omega
              subst hc1
              have HR2 : Hid (RB wo wo.heap.size (some ⟨g, o, none⟩) 0 u) := Lib.hid (by have := HRT.out; rwa [if_pos rfl] at this)
              go_wp2_with fail
              go_roundg 0
              case measure => omega
              case rel => exact ⟨_, _, u, rfl, by omega, by have := HJ4.out; omega, fun c hc => HDU.out c (List.mem_cons_of_mem _ hc), HV2.out, HR2.out, rfl⟩
            · have HR2 : Hid (RB wo wo.heap.size (some ⟨g, o + 1, none⟩) j u) := Lib.hid (by have := HRT.out; rwa [if_neg hc1] at this)
              go_wp2_with fail
              go_roundg j
              case measure => omega
              case rel => exact ⟨_, _, u, rfl, by omega, by have := HJ4.out; omega, fun c hc => HDU.out c (List.mem_cons_of_mem _ hc), HV2.out, HR2.out, rfl⟩
          · have t3 : (((b.toNat : Nat) : Int) == 48) = false := by rw [beq_eq_false_iff_ne]; omega
            have t4 : (((j + 1 : Nat) : Int) == 0) = false := by rw [beq_eq_false_iff_ne]; omega
            have HDX : Hid (dtext x = b :: u) := Lib.hid (by
              rw [← HVU.out]
              refine dtext_canon HDU.out (by simp) (.inl ?_)
              intro h
              apply h48
              have : b = 48 := by simpa using h
              rw [this]; rfl)
            have hstr := fun c' => str_of_RB HRF.out c'
            obtain ⟨y, hy⟩ : ∃ y : Nat, b.toNat = y := ⟨_, rfl⟩
            have hbv : bv b = .int .u8 (y : Int) := by show Value.int .u8 (b.toNat : Int) = _; rw [hy]
            rw [hbv] at hb0
            rw [hy] at t3
            clear hy hbv h48
            go_wp2_with fail
            go_ret
            exact ⟨by rw [HDX.out]; rfl, HB9.out⟩
theorem rtext_nat (v : Value) (x N : Nat) (w : World) (hv : RatW w v x) (hx : x < B4 ^ N) (hN : N ≤ 10000) :
    Calls Tryd.prog 9 #[v] w fun e w' => e = .returned (.string ⟨(dtext x).toArray⟩) ∧ Below w.heap.size w w' := rtext_core v x N w hv hx hN
end Go.Proofs.YtgihkmofpncobaaDoor
