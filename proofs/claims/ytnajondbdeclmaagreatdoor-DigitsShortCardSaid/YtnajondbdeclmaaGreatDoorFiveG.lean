/- The reference's digits: a row of letters without another one (Less). -/
import Derived.Test.YtnajondbdeclmaaGreatDoorFiveF
namespace Go.Proofs.YtnajondbdeclmaaGreatDoor
open Go.RowKit
set_option linter.unusedSimpArgs false
set_option linter.unusedVariables false

theorem noughtsL_tx {R : List UInt8} (h : ∀ c ∈ R, isD c = true) : noughtsL R = tx (dval R) := by
  have hv : dval (noughtsL R) = dval R := dropZ_val R
  by_cases h0 : noughtsL R = []
  · rw [h0, dval_nil] at hv
    rw [h0, ← hv]
    rfl
  · have hd : ∀ c ∈ noughtsL R, isD c = true := fun c hc => h c (noughtsL_mem hc)
    have hh := noughtsL_head R
    have hp : 0 < dval R := by
      rw [← hv]
      have hL : Lead (noughtsL R) := ⟨hd, h0, by
        cases hn : noughtsL R with
        | nil => exact absurd hn h0
        | cons c l =>
          rw [hn] at hh
          intro e
          apply hh
          have e2 : c = 48 := e
          rw [e2]; rfl⟩
      exact Nat.lt_of_lt_of_le (pow10 _) hL.ge
    rw [tx_pos hp, ← hv]
    refine (dtext_canon hd h0 (.inl ?_)).symm
    cases hn : noughtsL R with
    | nil => exact absurd hn h0
    | cons c l =>
      rw [hn] at hh
      intro e
      apply hh
      have e2 : c = 48 := e
      rw [e2]; rfl
theorem noughtsL_48 (l : List UInt8) : noughtsL (48 :: l) = noughtsL l := rfl
theorem noughtsL_ne {c : UInt8} {l : List UInt8} (h : c ≠ 48) : noughtsL (c :: l) = c :: l := by
  unfold noughtsL
  rw [List.dropWhile_cons_of_neg (by simpa using h)]
/-- One digit more of a difference. -/
theorem less_step {A B R : List UInt8} {n lb i u a b ρ v : Nat} (hA : A.length = n) (hB : B.length = lb) (hi : i < n) (hR : R.length = i)
    (hinv : dval R + dval (B.drop (lb - i)) = dval (A.drop (n - i)) + u * 10 ^ i)
    (ha : (A[n - 1 - i]'(by omega)).toNat - 48 = a) (hb : b = if h : i < lb then (B[lb - 1 - i]'(by omega)).toNat - 48 else 0) (hρ : ρ + b + u = a + 10 * v) (hρ9 : ρ < 10) :
    dval (dch ρ :: R) + dval (B.drop (lb - (i + 1))) = dval (A.drop (n - (i + 1))) + v * 10 ^ (i + 1) := by
  have hA1 : A.drop (n - (i + 1)) = A[n - 1 - i]'(by omega) :: A.drop (n - i) := by
    rw [show n - (i + 1) = n - 1 - i by omega, List.drop_eq_getElem_cons (by omega)]
    congr 2
    omega
  have hAl : (A.drop (n - i)).length = i := by rw [List.length_drop]; omega
  have hB1 : dval (B.drop (lb - (i + 1))) = b * 10 ^ i + dval (B.drop (lb - i)) := by
    by_cases h : i < lb
    · rw [dif_pos h] at hb
      have e : B.drop (lb - (i + 1)) = B[lb - 1 - i]'(by omega) :: B.drop (lb - i) := by
        rw [show lb - (i + 1) = lb - 1 - i by omega, List.drop_eq_getElem_cons (by omega)]
        congr 2
        omega
      rw [e, dval_cons, ← hb, List.length_drop, show B.length - (lb - i) = i by omega]
    · rw [dif_neg h] at hb
      rw [hb, Nat.zero_mul, Nat.zero_add, show lb - (i + 1) = lb - i by omega]
  rw [dval_cons, hB1, hA1, dval_cons, ha, hAl, hR, dch_toNat hρ9, show 48 + ρ - 48 = ρ by omega, Nat.pow_succ]
  have e3 : (ρ + b + u) * 10 ^ i = (a + 10 * v) * 10 ^ i := by rw [hρ]
  rw [Nat.add_mul, Nat.add_mul, Nat.add_mul] at e3
  generalize 10 ^ i = p at *
  have e4 : v * (p * 10) = 10 * v * p := by rw [Nat.mul_comm 10 v, Nat.mul_assoc, Nat.mul_comm p 10]
  rw [e4]
  omega
set_option maxRecDepth 100000 in
set_option maxHeartbeats 8000000 in
theorem rless_any (x y : Nat) (w : World) (hxy : y ≤ x) (hl : (tx x).length ≤ 100000) (hly : (tx y).length ≤ (tx x).length) :
    Calls Tryz.prog 65 #[.string ⟨(tx x).toArray⟩, .string ⟨(tx y).toArray⟩] w fun e w' => e = .returned (.string ⟨(tx (x - y)).toArray⟩) ∧ Below w.heap.size w w' := by
  have hAd := tx_digits x
  have hBd := tx_digits y
  have hAv := tx_val x
  have hBv := tx_val y
  have HT : Hid (∀ R : List UInt8, (∀ c ∈ R, isD c = true) → dval R + y = x → noughtsL R = tx (x - y)) := Lib.hid (fun R h1 h2 => by rw [noughtsL_tx h1]; congr 1; omega)
  generalize tx (x - y) = res at *
  generalize tx x = A at *
  generalize tx y = B at *
  obtain ⟨k, W0, hcv, hbm, hbl⟩ := tobytes_at A w
  obtain ⟨n, hn⟩ : ∃ n, A.length = n := ⟨_, rfl⟩
  obtain ⟨lb, hlb⟩ : ∃ lb, B.length = lb := ⟨_, rfl⟩
  rw [hn] at hl hly hcv
  rw [hlb] at hly
  have HAD := Lib.hid hAd
  have HBD := Lib.hid hBd
  have HAV := Lib.hid hAv
  have HBV := Lib.hid hBv
  have HN := Lib.hid hn
  have HLB := Lib.hid hlb
  have HXY := Lib.hid hxy
  have HB0 := Lib.hid hbm
  have HE0 := Lib.hid hbl
  have hnI : (n : Int) ≤ 100000 := by omega
  have hlI : (lb : Int) ≤ (n : Int) := by omega
  clear hAd hBd hAv hBv hxy hbm hbl
  go_enter Tryz.func65, Tryz.ntmps65
  go_wp2_with fail
  clear hcv
  go_loopw [6, 7] (fun s6 s7 wr => ∃ (i u : Nat) (R : List UInt8), i ≤ n ∧ u ≤ 1 ∧ s6 = .int .u8 u ∧ s7 = .int .i64 i ∧ R.length = i ∧ (∀ c ∈ R, isD c = true) ∧ dval R + dval (B.drop (lb - i)) = dval (A.drop (n - i)) + u * 10 ^ i ∧ BM wr w.heap.size (A.take (n - i) ++ R ++ List.replicate k 0) ∧ Below w.heap.size w wr) (fun _ s7 _ => n - (intOf s7).toNat)
  case atStart =>
    refine ⟨0, 0, [], Nat.zero_le _, by omega, rfl, rfl, rfl, fun c hc => by simp at hc, ?_, ?_, HE0.out⟩
    · rw [Nat.sub_zero, Nat.sub_zero, List.drop_eq_nil_of_le (by rw [HLB.out]; omega), List.drop_eq_nil_of_le (by rw [HN.out]; omega)]
      rfl
    · have := HB0.out
      rw [Nat.sub_zero, List.take_of_length_le (by rw [HN.out]; omega)]
      simpa using this
  case round =>
    obtain ⟨i, u, R, hi, hu, rfl, rfl, hRl, hRd, hinv, hbm, hbel⟩ := hrel
    obtain ⟨wi, rfl⟩ : ∃ wi : World, wi = wr := ⟨_, rfl⟩
    have HRL := Lib.hid hRl
    have HRD := Lib.hid hRd
    have HINV := Lib.hid hinv
    have HB := Lib.hid hbm
    have HE := Lib.hid hbel
    clear hRl hRd hinv hbm hbel
    by_cases hlt : i < n
    · have t1 : decide ((i : Int) < (n : Int)) = true := decide_eq_true (by omega)
      have t1' : decide (i < n) = true := decide_eq_true hlt
      obtain ⟨p, hp⟩ : ∃ p, n - 1 - i = p := ⟨_, rfl⟩
      have hpA : p < A.length := by rw [HN.out]; omega
      have hpL : p < (A.take (n - i) ++ R ++ List.replicate k 0).length := by simp; rw [HN.out]; omega
      have hget : (A.take (n - i) ++ R ++ List.replicate k 0)[p]'hpL = A[p] := by
        rw [List.getElem_append_left (by simp; rw [HN.out]; omega), List.getElem_append_left (by simp; rw [HN.out]; omega), List.getElem_take]
      obtain ⟨xa, hxa⟩ : ∃ xa, (A[p]).toNat = xa := ⟨_, rfl⟩
      have hxd : 48 ≤ xa ∧ xa ≤ 57 := by rw [← hxa]; exact of_decide_eq_true (HAD.out _ (List.getElem_mem hpA))
      have cP : wi.cell? ⟨w.heap.size, p, none⟩ = some (.int .u8 (xa : Int)) := by rw [HB.out.cell p hpL, hget]; unfold bv; rw [hxa]
      have fP : wi.frozen? ⟨w.heap.size, p, none⟩ = false := HB.out.frozen p hpL
      have w1 : IntKind.i64.wrap ((n : Int) - 1) = (n : Int) - 1 := IntWalk.i64_in _ (by omega)
      have w2 : IntKind.i64.wrap ((n : Int) - 1 - (i : Int)) = (p : Int) := by rw [IntWalk.i64_in _ (by omega)]; omega
      have w3 : (n : Int) - 1 - (i : Int) = (p : Int) := by omega
      have hpn : p < n := by omega
      -- the digit that is taken away
      obtain ⟨b, hb⟩ : ∃ b, b = if h : i < lb then (B[lb - 1 - i]'(by rw [HLB.out]; omega)).toNat - 48 else 0 := ⟨_, rfl⟩
      have hb9 : b ≤ 9 := by
        rw [hb]
        split
        · rename_i h
          have := of_decide_eq_true (HBD.out (B[lb - 1 - i]'(by rw [HLB.out]; omega)) (List.getElem_mem _))
          omega
        · omega
      obtain ⟨d, hd⟩ : ∃ d, u + b = d := ⟨_, rfl⟩
      obtain ⟨al, hal⟩ : ∃ al, xa - 48 = al := ⟨_, rfl⟩
      have ka : (xa : Int) - 48 = (al : Int) := by omega
      have HB9 := Lib.hid hb9
      have HBD2 := Lib.hid hb
      have HXA : Hid ((A[n - 1 - i]'(by rw [HN.out]; omega)).toNat - 48 = al) := Lib.hid (by rw [← hal, ← hxa]; simp only [hp])
      have HSET : Hid (∀ c : UInt8, (A.take (n - i) ++ R ++ List.replicate k 0).set p c = A.take (n - (i + 1)) ++ (c :: R) ++ List.replicate k 0) := Lib.hid (fun c => by
        have hta : A.take (n - i) = A.take (n - (i + 1)) ++ [A[p]] := by
          have h2 := List.take_succ_eq_append_getElem hpA
          rw [show n - i = p + 1 by omega, show n - (i + 1) = p by omega]
          exact h2
        have hpl : (A.take (n - (i + 1))).length = p := by rw [List.length_take, HN.out]; omega
        rw [hta, List.append_assoc, List.append_assoc, List.set_append_right _ _ (by omega), hpl, Nat.sub_self]
        simp)
      rcases Nat.lt_or_ge i lb with hil | hil
      · have hq : lb - 1 - i < B.length := by rw [HLB.out]; omega
        obtain ⟨q, hqq⟩ : ∃ q, lb - 1 - i = q := ⟨_, rfl⟩
        rw [dif_pos hil] at hb
        have hbt : bt B (lb - 1 - i) = (B[lb - 1 - i]).toNat := bt_some (List.getElem?_eq_getElem hq)
        rw [← hbt] at hb
        rw [hqq] at hb hq
        have hyb := bt_isD hq HBD.out
        have hb4 := bget B q hq
        obtain ⟨yb, hyy⟩ : ∃ yb, bt B q = yb := ⟨_, rfl⟩
        rw [hyy] at hyb hb4 hb
        obtain ⟨hy1, hy2⟩ := hyb
        have s1 : decide ((i : Int) < (lb : Int)) = true := decide_eq_true (by omega)
        have s1' : decide (i < lb) = true := decide_eq_true hil
        have z1 : (lb : Int) - 1 - (i : Int) = (q : Int) := by omega
        have z2 : (yb : Int) - 48 = (b : Int) := by omega
        have z3 : (u : Int) + (b : Int) = (d : Int) := by omega
        have hqB : q < lb := by omega
        have hlbI : (lb : Int) ≤ 100000 := by omega
        have hyI : (yb : Int) ≤ 57 := by omega
        have hyJ : (48 : Int) ≤ (yb : Int) := by omega
        have hbI : (b : Int) ≤ 9 := by omega
        have huI : (u : Int) ≤ 1 := by omega
        have hLB := HLB.out
        clear hbI huI
        have hbI : (b : Int) ≤ 9 := by omega
        have huI : (u : Int) ≤ 1 := by omega
        have HQ := Lib.hid hq
        clear hyy hb hbt hil hy1 hy2 hqq
        by_cases hlo : al < d
        · have a1 : decide ((al : Int) < (d : Int)) = true := decide_eq_true (by omega)
          have a1' : decide (al < d) = true := decide_eq_true hlo
          obtain ⟨ρ, hρ⟩ : ∃ ρ, al + 10 - d = ρ := ⟨_, rfl⟩
          obtain ⟨xb, hxb⟩ : ∃ xb, xa + 10 = xb := ⟨_, rfl⟩
          obtain ⟨r, hr⟩ : ∃ r, 48 + ρ = r := ⟨_, rfl⟩
          have z4 : (xa : Int) + 10 = (xb : Int) := by omega
          have z5 : (xb : Int) - (d : Int) = (r : Int) := by omega
          have xI : (xa : Int) ≤ 57 := by omega
          have xJ : (48 : Int) ≤ (xa : Int) := by omega
          have rI : (r : Int) ≤ 57 := by omega
          have bI : (xb : Int) ≤ 67 := by omega
          have dI : (d : Int) ≤ 10 := by omega
          have hch : (UInt8.ofNat xb).toNat = xb := by rw [UInt8.toNat_ofNat']; exact Nat.mod_eq_of_lt (by omega)
          have B1 := HB.out.set p (UInt8.ofNat xb)
          have hb1 : bv (UInt8.ofNat xb) = .int .u8 (xb : Int) := by unfold bv; rw [hch]
          rw [hb1] at B1
          have cP2 : (wi.setCell ⟨w.heap.size, p, none⟩ (.int .u8 (xb : Int))).cell? ⟨w.heap.size, p, none⟩ = some (.int .u8 (xb : Int)) := by
            rw [B1.cell p (by rw [List.length_set]; exact hpL), List.getElem_set_self, hb1]
          have fP2 : (wi.setCell ⟨w.heap.size, p, none⟩ (.int .u8 (xb : Int))).frozen? ⟨w.heap.size, p, none⟩ = false := B1.frozen p (by rw [List.length_set]; exact hpL)
          have B2 := B1.set p (dch ρ)
          have hb2 : bv (dch ρ) = .int .u8 (r : Int) := by unfold bv; rw [dch_toNat (by omega), hr]
          rw [hb2, List.set_set, HSET.out] at B2
          have HBN := Lib.hid B2
          have HEN := Lib.hid ((HE.out.setCell (p := ⟨w.heap.size, p, none⟩) (Nat.le_refl _) (.int .u8 (xb : Int))).setCell (p := ⟨w.heap.size, p, none⟩) (Nat.le_refl _) (.int .u8 (r : Int)))
          have HRN : Hid (∀ c ∈ dch ρ :: R, isD c = true) := Lib.hid (fun c hc => by
            rcases List.mem_cons.1 hc with h | h
            · rw [h]; unfold isD; rw [dch_toNat (by omega)]; exact decide_eq_true (by omega)
            · exact HRD.out c h)
          have HIN := Lib.hid (less_step (v := 1) HN.out HLB.out hlt HRL.out HINV.out HXA.out HBD2.out (ρ := ρ) (by omega) (by omega))
          clear B1 B2 hch hb1 hb2 hlo hxb hr hρ
          go_wp2_with fail
          refine ⟨⟨i + 1, 1, dch ρ :: R, hlt, by decide, rfl, by go_num, by rw [List.length_cons, HRL.out], HRN.out, HIN.out, HBN.out, HEN.out⟩, ?_⟩
          simp [intOf]; omega
        · have a1 : decide ((al : Int) < (d : Int)) = false := decide_eq_false (by omega)
          have a1' : decide (al < d) = false := decide_eq_false hlo
          obtain ⟨ρ, hρ⟩ : ∃ ρ, al - d = ρ := ⟨_, rfl⟩
          obtain ⟨r, hr⟩ : ∃ r, 48 + ρ = r := ⟨_, rfl⟩
          have z5 : (xa : Int) - (d : Int) = (r : Int) := by omega
          have xI : (xa : Int) ≤ 57 := by omega
          have xJ : (48 : Int) ≤ (xa : Int) := by omega
          have rI : (r : Int) ≤ 57 := by omega
          have dI : (d : Int) ≤ 10 := by omega
          have B2 := HB.out.set p (dch ρ)
          have hb2 : bv (dch ρ) = .int .u8 (r : Int) := by unfold bv; rw [dch_toNat (by omega), hr]
          rw [hb2, HSET.out] at B2
          have HBN := Lib.hid B2
          have HEN := Lib.hid (HE.out.setCell (p := ⟨w.heap.size, p, none⟩) (Nat.le_refl _) (.int .u8 (r : Int)))
          have HRN : Hid (∀ c ∈ dch ρ :: R, isD c = true) := Lib.hid (fun c hc => by
            rcases List.mem_cons.1 hc with h | h
            · rw [h]; unfold isD; rw [dch_toNat (by omega)]; exact decide_eq_true (by omega)
            · exact HRD.out c h)
          have HIN := Lib.hid (less_step (v := 0) HN.out HLB.out hlt HRL.out HINV.out HXA.out HBD2.out (ρ := ρ) (by omega) (by omega))
          clear B2 hb2 hlo hr hρ
          go_wp2_with fail
          refine ⟨⟨i + 1, 0, dch ρ :: R, hlt, by decide, rfl, by go_num, by rw [List.length_cons, HRL.out], HRN.out, HIN.out, HBN.out, HEN.out⟩, ?_⟩
          simp [intOf]; omega
      · rw [dif_neg (by omega)] at hb
        have s1 : decide ((i : Int) < (lb : Int)) = false := decide_eq_false (by omega)
        have s1' : decide (i < lb) = false := decide_eq_false (by omega)
        have hdu : u = d := by omega
        have hLB := HLB.out
        clear hb hil
        by_cases hlo : al < d
        · have a1 : decide ((al : Int) < (d : Int)) = true := decide_eq_true (by omega)
          have a1' : decide (al < d) = true := decide_eq_true hlo
          obtain ⟨ρ, hρ⟩ : ∃ ρ, al + 10 - d = ρ := ⟨_, rfl⟩
          obtain ⟨xb, hxb⟩ : ∃ xb, xa + 10 = xb := ⟨_, rfl⟩
          obtain ⟨r, hr⟩ : ∃ r, 48 + ρ = r := ⟨_, rfl⟩
          have z4 : (xa : Int) + 10 = (xb : Int) := by omega
          have z5 : (xb : Int) - (d : Int) = (r : Int) := by omega
          have xI : (xa : Int) ≤ 57 := by omega
          have xJ : (48 : Int) ≤ (xa : Int) := by omega
          have rI : (r : Int) ≤ 57 := by omega
          have bI : (xb : Int) ≤ 67 := by omega
          have dI : (d : Int) ≤ 10 := by omega
          have hch : (UInt8.ofNat xb).toNat = xb := by rw [UInt8.toNat_ofNat']; exact Nat.mod_eq_of_lt (by omega)
          have B1 := HB.out.set p (UInt8.ofNat xb)
          have hb1 : bv (UInt8.ofNat xb) = .int .u8 (xb : Int) := by unfold bv; rw [hch]
          rw [hb1] at B1
          have cP2 : (wi.setCell ⟨w.heap.size, p, none⟩ (.int .u8 (xb : Int))).cell? ⟨w.heap.size, p, none⟩ = some (.int .u8 (xb : Int)) := by
            rw [B1.cell p (by rw [List.length_set]; exact hpL), List.getElem_set_self, hb1]
          have fP2 : (wi.setCell ⟨w.heap.size, p, none⟩ (.int .u8 (xb : Int))).frozen? ⟨w.heap.size, p, none⟩ = false := B1.frozen p (by rw [List.length_set]; exact hpL)
          have B2 := B1.set p (dch ρ)
          have hb2 : bv (dch ρ) = .int .u8 (r : Int) := by unfold bv; rw [dch_toNat (by omega), hr]
          rw [hb2, List.set_set, HSET.out] at B2
          have HBN := Lib.hid B2
          have HEN := Lib.hid ((HE.out.setCell (p := ⟨w.heap.size, p, none⟩) (Nat.le_refl _) (.int .u8 (xb : Int))).setCell (p := ⟨w.heap.size, p, none⟩) (Nat.le_refl _) (.int .u8 (r : Int)))
          have HRN : Hid (∀ c ∈ dch ρ :: R, isD c = true) := Lib.hid (fun c hc => by
            rcases List.mem_cons.1 hc with h | h
            · rw [h]; unfold isD; rw [dch_toNat (by omega)]; exact decide_eq_true (by omega)
            · exact HRD.out c h)
          have HIN := Lib.hid (less_step (v := 1) HN.out HLB.out hlt HRL.out HINV.out HXA.out HBD2.out (ρ := ρ) (by omega) (by omega))
          clear B1 B2 hch hb1 hb2 hlo hxb hr hρ
          go_wp2_with fail
          refine ⟨⟨i + 1, 1, dch ρ :: R, hlt, by decide, rfl, by go_num, by rw [List.length_cons, HRL.out], HRN.out, HIN.out, HBN.out, HEN.out⟩, ?_⟩
          simp [intOf]; omega
        · have a1 : decide ((al : Int) < (d : Int)) = false := decide_eq_false (by omega)
          have a1' : decide (al < d) = false := decide_eq_false hlo
          obtain ⟨ρ, hρ⟩ : ∃ ρ, al - d = ρ := ⟨_, rfl⟩
          obtain ⟨r, hr⟩ : ∃ r, 48 + ρ = r := ⟨_, rfl⟩
          have z5 : (xa : Int) - (d : Int) = (r : Int) := by omega
          have xI : (xa : Int) ≤ 57 := by omega
          have xJ : (48 : Int) ≤ (xa : Int) := by omega
          have rI : (r : Int) ≤ 57 := by omega
          have dI : (d : Int) ≤ 10 := by omega
          have B2 := HB.out.set p (dch ρ)
          have hb2 : bv (dch ρ) = .int .u8 (r : Int) := by unfold bv; rw [dch_toNat (by omega), hr]
          rw [hb2, HSET.out] at B2
          have HBN := Lib.hid B2
          have HEN := Lib.hid (HE.out.setCell (p := ⟨w.heap.size, p, none⟩) (Nat.le_refl _) (.int .u8 (r : Int)))
          have HRN : Hid (∀ c ∈ dch ρ :: R, isD c = true) := Lib.hid (fun c hc => by
            rcases List.mem_cons.1 hc with h | h
            · rw [h]; unfold isD; rw [dch_toNat (by omega)]; exact decide_eq_true (by omega)
            · exact HRD.out c h)
          have HIN := Lib.hid (less_step (v := 0) HN.out HLB.out hlt HRL.out HINV.out HXA.out HBD2.out (ρ := ρ) (by omega) (by omega))
          clear B2 hb2 hlo hr hρ
          go_wp2_with fail
          refine ⟨⟨i + 1, 0, dch ρ :: R, hlt, by decide, rfl, by go_num, by rw [List.length_cons, HRL.out], HRN.out, HIN.out, HBN.out, HEN.out⟩, ?_⟩
          simp [intOf]; omega
    · obtain rfl : i = n := by omega
      have hp10 := dval_lt R HRD.out
      rw [HRL.out] at hp10
      have hiv := HINV.out
      rw [Nat.sub_self, show lb - i = 0 by omega, List.drop_zero, List.drop_zero, HAV.out, HBV.out] at hiv
      have hxy := HXY.out
      have hu0 : u = 0 := by
        rcases Nat.lt_or_ge u 1 with h | h
        · omega
        · exfalso
          have : u = 1 := by omega
          rw [this] at hiv
          omega
      rw [hu0, Nat.zero_mul, Nat.add_zero] at hiv
      have hres := HT.out R HRD.out hiv
      have HRB := HB.out
      rw [Nat.sub_self, List.take_zero, List.nil_append] at HRB
      have HB2 := Lib.hid HRB
      have t1 : decide ((i : Int) < (i : Int)) = false := decide_eq_false (by omega)
      have t1' : decide (i < i) = false := decide_eq_false (by omega)
      clear HRB hiv hp10 hu0 hlt hxy HT HINV HB
      go_wp2_with fail
      clear t1 t1'
      go_loop [10] (fun s10 => ∃ j : Nat, s10 = .int .i64 j ∧ j ≤ i ∧ noughtsL (R.drop j) = res) (fun s10 => i - (intOf s10).toNat)
      case atStart => exact ⟨0, rfl, Nat.zero_le _, by rw [List.drop_zero]; exact hres⟩
      case round =>
        obtain ⟨j, rfl, hj, hnj⟩ := hrel
        have HNJ := Lib.hid hnj
        clear hnj
        by_cases hji : j < i
        · have hjR : j < R.length := by rw [HRL.out]; exact hji
          have hjL : j < (R ++ List.replicate k (0 : UInt8)).length := by rw [List.length_append]; omega
          have cJ : wi.cell? ⟨w.heap.size, j, none⟩ = some (.int .u8 (R[j].toNat : Int)) := by rw [HB2.out.cell j hjL, List.getElem_append_left hjR]
          have hdr := List.drop_eq_getElem_cons hjR
          have hc := of_decide_eq_true (HRD.out R[j] (List.getElem_mem hjR))
          obtain ⟨yj, hyj⟩ : ∃ yj, R[j].toNat = yj := ⟨_, rfl⟩
          rw [hyj] at cJ hc
          have t1 : decide ((j : Int) < (i : Int)) = true := decide_eq_true (by omega)
          have t1' : decide (j < i) = true := decide_eq_true hji
          by_cases h48 : yj = 48
          · have hc48 : R[j] = 48 := UInt8.toNat_inj.1 (by rw [hyj, h48]; rfl)
            have t2 : ((yj : Int) == 48) = true := by rw [h48]; rfl
            have hN2 : Hid (noughtsL (R.drop (j + 1)) = res) := Lib.hid (by
              have := HNJ.out
              rw [hdr, hc48, noughtsL_48] at this
              exact this)
            clear hdr hc h48 hc48 hyj
            go_wp2_with fail
            go_round
            case rel => exact ⟨j + 1, by go_num, hji, hN2.out⟩
            case measure => simp [intOf]; omega
          · have t2 : ((yj : Int) == 48) = false := by rw [beq_eq_false_iff_ne]; omega
            have hN2 : Hid (R.drop j = res) := Lib.hid (by
              have := HNJ.out
              rw [hdr, noughtsL_ne (fun h => h48 (by rw [← hyj, h]; rfl)), ← hdr] at this
              exact this)
            clear hdr hc h48 hyj
            have hrb : RB wi (w.heap.size + 1) (some ⟨w.heap.size, j, none⟩) (i - j) (R.drop j) := by
              refine ⟨by rw [List.length_drop, HRL.out], fun _ => ⟨_, _, rfl, by omega, fun q hq => ?_⟩⟩
              rw [List.length_drop] at hq
              rw [HB2.out.cell (j + q) (by rw [List.length_append]; omega), List.getElem_append_left (by omega), List.getElem_drop]
            have hco := str_of_RB hrb (i + k - j)
            rw [hN2.out] at hco
            clear hrb
            go_wp2_with fail
            go_ret
            exact ⟨rfl, HE.out⟩
        · obtain rfl : j = i := by omega
          have t1 : decide ((j : Int) < (j : Int)) = false := decide_eq_false (by omega)
          have t1' : decide (j < j) = false := decide_eq_false (by omega)
          have hN2 : Hid (res = []) := Lib.hid (by
            have := HNJ.out
            rw [List.drop_of_length_le (by rw [HRL.out]; exact Nat.le_refl _)] at this
            exact this.symm)
          have hco := fun (A : Option Addr) (c : Nat) => str_of_RB (RB.nil wi (w.heap.size + 1) A) c
          clear hji
          go_wp2_with fail
          all_goals
            go_ret
            exact ⟨by rw [hN2.out] <;> rfl, HE.out⟩
end Go.Proofs.YtnajondbdeclmaaGreatDoor
