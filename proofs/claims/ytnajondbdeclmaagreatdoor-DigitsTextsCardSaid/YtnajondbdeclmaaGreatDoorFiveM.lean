/- The reference's digits: a number's text (number), a size's text (Form). The reference's digits: a row of letters without another one (Less). -/
import Derived.Test.YtnajondbdeclmaaGreatDoorFiveF
namespace Go.Proofs.YtnajondbdeclmaaGreatDoor
open Go.RowKit
set_option linter.unusedSimpArgs false
set_option linter.unusedVariables false

/-- A text's length. -/
def sLen0 : Value → Nat
  | .string b => b.size
  | _ => 0
theorem ten_digits : ∀ k : Fin 10, (⟨#[48, 49, 50, 51, 52, 53, 54, 55, 56, 57]⟩ : ByteArray).extract k.val (k.val + 1) = ⟨#[UInt8.ofNat (48 + k.val)]⟩ := by decide
set_option maxRecDepth 100000 in
set_option maxHeartbeats 4000000 in
theorem rnum_small (n : Nat) (w : World) (h : n < 10) :
    Calls Tryz.prog 72 #[.int .i64 (n : Int)] w fun e w' => e = .returned (.string ⟨#[UInt8.ofNat (48 + n)]⟩) ∧ w = w' := by
  have hx0 : (⟨#[48, 49, 50, 51, 52, 53, 54, 55, 56, 57]⟩ : ByteArray).extract n (n + 1) = ⟨#[UInt8.ofNat (48 + n)]⟩ := ten_digits ⟨n, h⟩
  have hnI : (n : Int) < 10 := by omega
  have t1 : decide ((n : Int) < 10) = true := decide_eq_true hnI
  have kw : (n : Int) + 1 = ((n + 1 : Nat) : Int) := by omega
  have hle : n ≤ n + 1 := by omega
  generalize UInt8.ofNat (48 + n) = c at *
  obtain ⟨m, hm⟩ : ∃ m, n + 1 = m := ⟨_, rfl⟩
  rw [hm] at kw hle
  have hx : (⟨#[48, 49, 50, 51, 52, 53, 54, 55, 56, 57]⟩ : ByteArray).extract n m = ⟨#[c]⟩ := by rw [← hm]; exact hx0
  have hm10 : m ≤ 10 := by omega
  clear hm h hx0
  go_enter Tryz.func72, Tryz.ntmps72
  go_wp2_with fail
  go_ret
  exact ⟨rfl, rfl⟩
set_option maxRecDepth 100000 in
set_option maxHeartbeats 400000 in
theorem rnum_any (n : Nat) : ∀ (w : World), n < 9223372036854775808 →
    Calls Tryz.prog 72 #[.int .i64 (n : Int)] w fun e w' => e = .returned (.string ⟨(Lib.decDigits n).toArray⟩) ∧ w = w' := by
  induction n using Nat.strongRecOn with
  | _ n ih =>
    intro w hn
    by_cases h : n < 10
    · rw [Lib.decDigits, dif_pos h]
      exact rnum_small n w h
    · obtain ⟨q, hq⟩ : ∃ q, n / 10 = q := ⟨_, rfl⟩
      obtain ⟨r, hr⟩ : ∃ r, n % 10 = r := ⟨_, rfl⟩
      have IH := Lib.hid (fun W => ih q (by omega) W (by omega))
      have IS := Lib.hid (fun W => rnum_small r W (by omega))
      have hdd : Lib.decDigits n = Lib.decDigits q ++ [UInt8.ofNat (48 + r)] := by rw [Lib.decDigits, dif_neg h, hq]; subst hr; rfl
      have hln : (Lib.decDigits q).length ≤ 20 := by
        rw [Lib.decDigits_length]
        exact Lib.nDigits_le20 _ (by omega)
      have hlI : ((Lib.decDigits q).length : Int) ≤ 20 := by omega
      have t1 : decide ((n : Int) < 10) = false := decide_eq_false (by omega)
      have kq : (n : Int) / 10 = (q : Int) := by omega
      have kr : (n : Int) % 10 = (r : Int) := by omega
      rw [hdd]
      generalize Lib.decDigits q = D at *
      generalize UInt8.ofNat (48 + r) = c at *
      have hcat := sv_cat D [c]
      have hnI : (n : Int) < 9223372036854775808 := by omega
      clear ih hq hr hdd h hln
      go_enter Tryz.func72, Tryz.ntmps72
      go_wp2_with fail
      refine (IH.out _).mono ?_
      rintro e w1 ⟨rfl, rfl⟩
      go_wp2_with fail
      refine (IS.out _).mono ?_
      rintro e w1 ⟨rfl, rfl⟩
      go_wp2_with fail
      go_ret
      exact ⟨rfl, rfl⟩
theorem cut_in (l : List UInt8) (a b n : Nat) (h : l.length = n) (hb : b ≤ n) : (⟨l.toArray⟩ : ByteArray).extract a b = ⟨((l.drop a).take (b - a)).toArray⟩ := by
  apply ByteArray.ext
  subst h
  simp
set_option maxRecDepth 100000 in
set_option maxHeartbeats 2000000 in
theorem rform_walk (s S rest out : List UInt8) (L P : Nat) (w : World) (hs : s.length ≤ 5000) (hS : S = List.replicate (1076 - s.length) 48 ++ s) (hL : S.length = L) (hP : P + 1075 = L)
    (hrest : noughtsR (S.drop P) = rest) (hout : out = S.take P ++ pB rest) :
    Calls Tryz.prog 74 #[.string ⟨s.toArray⟩] w fun e w' => e = .returned (.string ⟨out.toArray⟩) ∧ w = w' := by
  have hL2 : L ≤ 6076 ∧ 1076 ≤ L ∧ s.length ≤ L := by rw [← hL, hS, List.length_append, List.length_replicate]; omega
  obtain ⟨l0, hl0⟩ : ∃ l0, s.length = l0 := ⟨_, rfl⟩
  have HSS := Lib.hid hS
  have HL := Lib.hid hL
  have HP := Lib.hid hP
  have HRS := Lib.hid hrest
  have HO := Lib.hid hout
  have HL2 := Lib.hid hL2
  have HL0 := Lib.hid hl0
  clear hs hS hL hP hrest hout hL2
  go_enter Tryz.func74, Tryz.ntmps74
  go_wp2_with fail
  go_loop [0] (fun s0 => ∃ a : Nat, s0 = .string ⟨(List.replicate a 48 ++ s).toArray⟩ ∧ a ≤ 1076 - l0) (fun s0 => 1076 - sLen0 s0)
  case atStart => exact ⟨0, by simp, Nat.zero_le _⟩
  case round =>
    obtain ⟨a, rfl, ha⟩ := hrel
    obtain ⟨T, hT⟩ : ∃ T, List.replicate a 48 ++ s = T := ⟨_, rfl⟩
    obtain ⟨m, hm⟩ : ∃ m, T.length = m := ⟨_, rfl⟩
    have hma : m = a + l0 := by rw [← hm, ← hT, List.length_append, List.length_replicate, hl0]
    rw [hT]
    have hl2 := HL2.out
    have hmI : (m : Int) ≤ 6076 := by omega
    by_cases hlt : m < 1076
    · have t1 : decide ((m : Int) < 1076) = true := decide_eq_true (by omega)
      have hcat := sv_cat [48] T
      have hN := Lib.hid (show [48] ++ T = List.replicate (a + 1) 48 ++ s by rw [← hT, List.replicate_succ]; rfl)
      have ha2 : a + 1 ≤ 1076 - l0 := by omega
      clear hT hma ha hl2
      generalize hT2 : [48] ++ T = T2 at *
      have hm2 : T2.length = m + 1 := by rw [← hT2, List.length_append, hm]; simp; omega
      clear hT2
      go_wp2_with fail
      go_round
      case rel => exact ⟨a + 1, by rw [hN.out], ha2⟩
      case measure =>
        show 1076 - T2.length < 1076 - T.length
        omega
    · have hTS : T = S := by rw [← hT, HSS.out, HL0.out, show a = 1076 - l0 by omega]
      subst hTS
      have hmL : m = L := by rw [← hm]; exact HL.out
      subst hmL
      have t1 : decide ((m : Int) < 1076) = false := decide_eq_false (by omega)
      have hPI : (P : Int) ≤ 6076 := by have := HP.out; omega
      have kP : (m : Int) - 1075 = (P : Int) := by have := HP.out; omega
      clear hT hma ha hlt
      go_wp2_with fail
      clear t1
      go_loop [3] (fun s3 => ∃ j : Nat, s3 = .int .i64 j ∧ P ≤ j ∧ j ≤ m ∧ noughtsR ((T.drop P).take (j - P)) = rest) (fun s3 => (intOf s3).toNat)
      case atStart => exact ⟨m, rfl, by omega, Nat.le_refl _, by rw [List.take_of_length_le (by rw [List.length_drop, hm]; exact Nat.le_refl _)]; exact HRS.out⟩
      case round =>
        obtain ⟨j, rfl, hj1, hj2, hjr⟩ := hrel
        have HJR := Lib.hid hjr
        clear hjr
        have hjI : (j : Int) ≤ 6076 := by omega
        by_cases hjP : j = P
        · subst hjP
          have hre : Hid (rest = []) := Lib.hid (by have := HJR.out; rw [Nat.sub_self, List.take_zero] at this; rw [← this]; rfl)
          have t1 : decide ((j : Int) < (j : Int)) = false := decide_eq_false (by omega)
          have t1' : decide (j < j) = false := decide_eq_false (by omega)
          have hc1 := cut_take T j
          have hTl : (T.take j).length = j := by rw [List.length_take, hm]; omega
          have hV : Hid (out = T.take j) := Lib.hid (by rw [HO.out, hre.out]; simp [pB])
          generalize T.take j = H at *
          have t2 : ((j : Int) == (j : Int)) = true := by rw [beq_iff_eq]
          go_wp2_with fail
          go_ret
          exact ⟨by rw [hV.out] <;> rfl, rfl⟩
        · have t1 : decide ((P : Int) < (j : Int)) = true := decide_eq_true (by omega)
          have t1' : decide (P < j) = true := decide_eq_true (by omega)
          obtain ⟨i, hi⟩ : ∃ i, j = i + 1 := ⟨j - 1, by omega⟩
          have him : i < T.length := by omega
          have hb4 := bget T i him
          have hbe : bt T i = (T[i]).toNat := bt_some (List.getElem?_eq_getElem him)
          have kj : (j : Int) - 1 = (i : Int) := by omega
          have htk : (T.drop P).take (j - P) = (T.drop P).take (i - P) ++ [T[i]] := by
            have h2 := List.take_succ_eq_append_getElem (l := T.drop P) (i := i - P) (by rw [List.length_drop]; omega)
            rw [show j - P = i - P + 1 by omega, h2, List.getElem_drop]
            congr 3
            omega
          have hb256 : bt T i < 256 := by rw [hbe]; exact UInt8.toNat_lt _
          obtain ⟨y, hy⟩ : ∃ y, bt T i = y := ⟨_, rfl⟩
          rw [hy] at hb4 hbe hb256
          have hyI : (y : Int) < 256 := by omega
          by_cases h48 : y = 48
          · have hc : T[i] = 48 := UInt8.toNat_inj.1 (by rw [← hbe, h48]; rfl)
            have t2 : ((y : Int) == 48) = true := by rw [h48]; rfl
            have hN : Hid (noughtsR ((T.drop P).take (i - P)) = rest) := Lib.hid (by
              have := HJR.out
              rw [htk, hc] at this
              rw [← this]
              exact (noughtsR_app _ 1).symm)
            have hi1 : P ≤ i := by omega
            have hi2 : i ≤ m := by omega
            clear hjP hi hbe htk hy h48 hc hb256
            go_wp2_with fail
            go_round
            case rel => exact ⟨i, by go_num, hi1, hi2, hN.out⟩
            case measure => simp [intOf]; omega
          · have t2 : ((y : Int) == 48) = false := by rw [beq_eq_false_iff_ne]; omega
            have hre : Hid (rest = (T.drop P).take (j - P)) := Lib.hid (by
              have := HJR.out
              rw [← this]
              refine noughtsR_is ?_
              rw [htk]
              simp
              intro h
              exact h48 (by rw [hbe, h]; rfl))
            have hre2 : rest ≠ [] := by rw [hre.out, htk]; simp
            have hTl : (T.take P).length = P := by rw [List.length_take, hm]; omega
            have hc1 := cut_take T P
            have hc2 := cut_in T P j m hm (by omega)
            rw [← hre.out] at hc2
            have hV : Hid (out = T.take P ++ [46] ++ rest) := Lib.hid (by rw [HO.out]; unfold pB; rw [if_neg hre2]; simp)
            have q1 := sv_cat (T.take P) [46]
            have q2 := sv_cat (T.take P ++ [46]) rest
            have q3 : (((T.take P ++ [46]).length : Nat) : Int) ≤ 7000 := by rw [List.length_append, hTl, List.length_singleton]; omega
            have q4 : ((rest.length : Nat) : Int) ≤ 7000 := by rw [hre.out, List.length_take, List.length_drop]; omega
            generalize T.take P ++ [46] = H2 at *
            generalize T.take P = H at *
            have t3 : ((j : Int) == (P : Int)) = false := by rw [beq_eq_false_iff_ne]; omega
            have hPj : P ≤ j := hj1
            clear hi hbe htk hy h48 hb256 hre2
            go_wp2_with fail
            go_ret
            exact ⟨by rw [hV.out] <;> rfl, rfl⟩
theorem padN_tx (x : Nat) : padN x = List.replicate (unitE + 1 - (tx x).length) 48 ++ tx x := by
  unfold padN
  rcases Nat.eq_zero_or_pos x with h | h
  · rw [h, tx_zero]
    have h1 : lenD 0 = 1 := by decide
    have h2 : dtext 0 = [48] := by decide
    rw [h1, h2, List.append_nil, List.length_nil, Nat.sub_zero, Nat.add_sub_cancel, ← List.replicate_succ']
  · rw [tx_pos h]; rfl
theorem rform_any (x : Nat) (w : World) (hx : (tx x).length ≤ 5000) :
    Calls Tryz.prog 74 #[.string ⟨(tx x).toArray⟩] w fun e w' => e = .returned (.string ⟨(formN x).toArray⟩) ∧ w = w' := by
  have hp := padN_tx x
  have hu : unitE + 1 = 1076 := rfl
  have hu2 : unitE = 1075 := rfl
  have hlen : unitE < (padN x).length := padN_len x
  have e1 : formN x = (padN x).take ((padN x).length - unitE) ++ pB (noughtsR ((padN x).drop ((padN x).length - unitE))) := by unfold formN wholeN restN; exact Eq.refl _
  rw [hu] at hp
  generalize formN x = o at *
  generalize padN x = S at *
  obtain ⟨P, hP⟩ : ∃ P, S.length - unitE = P := ⟨_, rfl⟩
  rw [hP] at e1
  exact rform_walk (tx x) S _ o S.length P w hx hp rfl (by omega) rfl e1
end Go.Proofs.YtnajondbdeclmaaGreatDoor

namespace Go.Proofs.YtnajondbdeclmaaGreatDoor
open Go.RowKit
set_option linter.unusedSimpArgs false
set_option linter.unusedVariables false

theorem noughtsL_tx {R : List UInt8} (h : ∀ c ∈ R, isD c = true) : noughtsL R = tx (dval R) := by
  have hv : dval (noughtsL R) = dval R := dropZ_val R
  by_cases h0 : noughtsL R = []
  · rw [h0, dval_nil] at hv
    rw [h0, ← hv]
    rfl
  · have hd : ∀ c ∈ noughtsL R, isD c = true := fun c hc => h c (noughtsL_mem hc)
    have hh := noughtsL_head R
    have hp : 0 < dval R := by
      rw [← hv]
      have hL : Lead (noughtsL R) := ⟨hd, h0, by
        cases hn : noughtsL R with
        | nil => exact absurd hn h0
        | cons c l =>
          rw [hn] at hh
          intro e
          apply hh
          have e2 : c = 48 := e
          rw [e2]; rfl⟩
      exact Nat.lt_of_lt_of_le (pow10 _) hL.ge
    rw [tx_pos hp, ← hv]
    refine (dtext_canon hd h0 (.inl ?_)).symm
    cases hn : noughtsL R with
    | nil => exact absurd hn h0
    | cons c l =>
      rw [hn] at hh
      intro e
      apply hh
      have e2 : c = 48 := e
      rw [e2]; rfl
theorem noughtsL_48 (l : List UInt8) : noughtsL (48 :: l) = noughtsL l := rfl
theorem noughtsL_ne {c : UInt8} {l : List UInt8} (h : c ≠ 48) : noughtsL (c :: l) = c :: l := by
  unfold noughtsL
  rw [List.dropWhile_cons_of_neg (by simpa using h)]
/-- One digit more of a difference. -/
theorem less_step {A B R : List UInt8} {n lb i u a b ρ v : Nat} (hA : A.length = n) (hB : B.length = lb) (hi : i < n) (hR : R.length = i)
    (hinv : dval R + dval (B.drop (lb - i)) = dval (A.drop (n - i)) + u * 10 ^ i)
    (ha : (A[n - 1 - i]'(by omega)).toNat - 48 = a) (hb : b = if h : i < lb then (B[lb - 1 - i]'(by omega)).toNat - 48 else 0) (hρ : ρ + b + u = a + 10 * v) (hρ9 : ρ < 10) :
    dval (dch ρ :: R) + dval (B.drop (lb - (i + 1))) = dval (A.drop (n - (i + 1))) + v * 10 ^ (i + 1) := by
  have hA1 : A.drop (n - (i + 1)) = A[n - 1 - i]'(by omega) :: A.drop (n - i) := by
    rw [show n - (i + 1) = n - 1 - i by omega, List.drop_eq_getElem_cons (by omega)]
    congr 2
    omega
  have hAl : (A.drop (n - i)).length = i := by rw [List.length_drop]; omega
  have hB1 : dval (B.drop (lb - (i + 1))) = b * 10 ^ i + dval (B.drop (lb - i)) := by
    by_cases h : i < lb
    · rw [dif_pos h] at hb
      have e : B.drop (lb - (i + 1)) = B[lb - 1 - i]'(by omega) :: B.drop (lb - i) := by
        rw [show lb - (i + 1) = lb - 1 - i by omega, List.drop_eq_getElem_cons (by omega)]
        congr 2
        omega
      rw [e, dval_cons, ← hb, List.length_drop, show B.length - (lb - i) = i by omega]
    · rw [dif_neg h] at hb
      rw [hb, Nat.zero_mul, Nat.zero_add, show lb - (i + 1) = lb - i by omega]
  rw [dval_cons, hB1, hA1, dval_cons, ha, hAl, hR, dch_toNat hρ9, show 48 + ρ - 48 = ρ by omega, Nat.pow_succ]
  have e3 : (ρ + b + u) * 10 ^ i = (a + 10 * v) * 10 ^ i := by rw [hρ]
  rw [Nat.add_mul, Nat.add_mul, Nat.add_mul] at e3
  generalize 10 ^ i = p at *
  have e4 : v * (p * 10) = 10 * v * p := by rw [Nat.mul_comm 10 v, Nat.mul_assoc, Nat.mul_comm p 10]
  rw [e4]
  omega
set_option maxRecDepth 100000 in
set_option maxHeartbeats 8000000 in
theorem rless_any (x y : Nat) (w : World) (hxy : y ≤ x) (hl : (tx x).length ≤ 100000) (hly : (tx y).length ≤ (tx x).length) :
    Calls Tryz.prog 65 #[.string ⟨(tx x).toArray⟩, .string ⟨(tx y).toArray⟩] w fun e w' => e = .returned (.string ⟨(tx (x - y)).toArray⟩) ∧ Below w.heap.size w w' := by
  have hAd := tx_digits x
  have hBd := tx_digits y
  have hAv := tx_val x
  have hBv := tx_val y
  have HT : Hid (∀ R : List UInt8, (∀ c ∈ R, isD c = true) → dval R + y = x → noughtsL R = tx (x - y)) := Lib.hid (fun R h1 h2 => by rw [noughtsL_tx h1]; congr 1; omega)
  generalize tx (x - y) = res at *
  generalize tx x = A at *
  generalize tx y = B at *
  obtain ⟨k, W0, hcv, hbm, hbl⟩ := tobytes_at A w
  obtain ⟨n, hn⟩ : ∃ n, A.length = n := ⟨_, rfl⟩
  obtain ⟨lb, hlb⟩ : ∃ lb, B.length = lb := ⟨_, rfl⟩
  rw [hn] at hl hly hcv
  rw [hlb] at hly
  have HAD := Lib.hid hAd
  have HBD := Lib.hid hBd
  have HAV := Lib.hid hAv
  have HBV := Lib.hid hBv
  have HN := Lib.hid hn
  have HLB := Lib.hid hlb
  have HXY := Lib.hid hxy
  have HB0 := Lib.hid hbm
  have HE0 := Lib.hid hbl
  have hnI : (n : Int) ≤ 100000 := by omega
  have hlI : (lb : Int) ≤ (n : Int) := by omega
  clear hAd hBd hAv hBv hxy hbm hbl
  go_enter Tryz.func65, Tryz.ntmps65
  go_wp2_with fail
  clear hcv
  go_loopw [6, 7] (fun s6 s7 wr => ∃ (i u : Nat) (R : List UInt8), i ≤ n ∧ u ≤ 1 ∧ s6 = .int .u8 u ∧ s7 = .int .i64 i ∧ R.length = i ∧ (∀ c ∈ R, isD c = true) ∧ dval R + dval (B.drop (lb - i)) = dval (A.drop (n - i)) + u * 10 ^ i ∧ BM wr w.heap.size (A.take (n - i) ++ R ++ List.replicate k 0) ∧ Below w.heap.size w wr) (fun _ s7 _ => n - (intOf s7).toNat)
  case atStart =>
    refine ⟨0, 0, [], Nat.zero_le _, by omega, rfl, rfl, rfl, fun c hc => by simp at hc, ?_, ?_, HE0.out⟩
    · rw [Nat.sub_zero, Nat.sub_zero, List.drop_eq_nil_of_le (by rw [HLB.out]; omega), List.drop_eq_nil_of_le (by rw [HN.out]; omega)]
      rfl
    · have := HB0.out
      rw [Nat.sub_zero, List.take_of_length_le (by rw [HN.out]; omega)]
      simpa using this
  case round =>
    obtain ⟨i, u, R, hi, hu, rfl, rfl, hRl, hRd, hinv, hbm, hbel⟩ := hrel
    obtain ⟨wi, rfl⟩ : ∃ wi : World, wi = wr := ⟨_, rfl⟩
    have HRL := Lib.hid hRl
    have HRD := Lib.hid hRd
    have HINV := Lib.hid hinv
    have HB := Lib.hid hbm
    have HE := Lib.hid hbel
    clear hRl hRd hinv hbm hbel
    by_cases hlt : i < n
    · have t1 : decide ((i : Int) < (n : Int)) = true := decide_eq_true (by omega)
      have t1' : decide (i < n) = true := decide_eq_true hlt
      obtain ⟨p, hp⟩ : ∃ p, n - 1 - i = p := ⟨_, rfl⟩
      have hpA : p < A.length := by rw [HN.out]; omega
      have hpL : p < (A.take (n - i) ++ R ++ List.replicate k 0).length := by simp; rw [HN.out]; omega
      have hget : (A.take (n - i) ++ R ++ List.replicate k 0)[p]'hpL = A[p] := by
        rw [List.getElem_append_left (by simp; rw [HN.out]; omega), List.getElem_append_left (by simp; rw [HN.out]; omega), List.getElem_take]
      obtain ⟨xa, hxa⟩ : ∃ xa, (A[p]).toNat = xa := ⟨_, rfl⟩
      have hxd : 48 ≤ xa ∧ xa ≤ 57 := by rw [← hxa]; exact of_decide_eq_true (HAD.out _ (List.getElem_mem hpA))
      have cP : wi.cell? ⟨w.heap.size, p, none⟩ = some (.int .u8 (xa : Int)) := by rw [HB.out.cell p hpL, hget]; unfold bv; rw [hxa]
      have fP : wi.frozen? ⟨w.heap.size, p, none⟩ = false := HB.out.frozen p hpL
      have w1 : IntKind.i64.wrap ((n : Int) - 1) = (n : Int) - 1 := IntWalk.i64_in _ (by omega)
      have w2 : IntKind.i64.wrap ((n : Int) - 1 - (i : Int)) = (p : Int) := by rw [IntWalk.i64_in _ (by omega)]; omega
      have w3 : (n : Int) - 1 - (i : Int) = (p : Int) := by omega
      have hpn : p < n := by omega
      -- the digit that is taken away
      obtain ⟨b, hb⟩ : ∃ b, b = if h : i < lb then (B[lb - 1 - i]'(by rw [HLB.out]; omega)).toNat - 48 else 0 := ⟨_, rfl⟩
      have hb9 : b ≤ 9 := by
        rw [hb]
        split
        · rename_i h
          have := of_decide_eq_true (HBD.out (B[lb - 1 - i]'(by rw [HLB.out]; omega)) (List.getElem_mem _))
          omega
        · omega
      obtain ⟨d, hd⟩ : ∃ d, u + b = d := ⟨_, rfl⟩
      obtain ⟨al, hal⟩ : ∃ al, xa - 48 = al := ⟨_, rfl⟩
      have ka : (xa : Int) - 48 = (al : Int) := by omega
      have HB9 := Lib.hid hb9
      have HBD2 := Lib.hid hb
      have HXA : Hid ((A[n - 1 - i]'(by rw [HN.out]; omega)).toNat - 48 = al) := Lib.hid (by rw [← hal, ← hxa]; simp only [hp])
      have HSET : Hid (∀ c : UInt8, (A.take (n - i) ++ R ++ List.replicate k 0).set p c = A.take (n - (i + 1)) ++ (c :: R) ++ List.replicate k 0) := Lib.hid (fun c => by
        have hta : A.take (n - i) = A.take (n - (i + 1)) ++ [A[p]] := by
          have h2 := List.take_succ_eq_append_getElem hpA
          rw [show n - i = p + 1 by omega, show n - (i + 1) = p by omega]
          exact h2
        have hpl : (A.take (n - (i + 1))).length = p := by rw [List.length_take, HN.out]; omega
        rw [hta, List.append_assoc, List.append_assoc, List.set_append_right _ _ (by omega), hpl, Nat.sub_self]
        simp)
      rcases Nat.lt_or_ge i lb with hil | hil
      · have hq : lb - 1 - i < B.length := by rw [HLB.out]; omega
        obtain ⟨q, hqq⟩ : ∃ q, lb - 1 - i = q := ⟨_, rfl⟩
        rw [dif_pos hil] at hb
        have hbt : bt B (lb - 1 - i) = (B[lb - 1 - i]).toNat := bt_some (List.getElem?_eq_getElem hq)
        rw [← hbt] at hb
        rw [hqq] at hb hq
        have hyb := bt_isD hq HBD.out
        have hb4 := bget B q hq
        obtain ⟨yb, hyy⟩ : ∃ yb, bt B q = yb := ⟨_, rfl⟩
        rw [hyy] at hyb hb4 hb
        obtain ⟨hy1, hy2⟩ := hyb
        have s1 : decide ((i : Int) < (lb : Int)) = true := decide_eq_true (by omega)
        have s1' : decide (i < lb) = true := decide_eq_true hil
        have z1 : (lb : Int) - 1 - (i : Int) = (q : Int) := by omega
        have z2 : (yb : Int) - 48 = (b : Int) := by omega
        have z3 : (u : Int) + (b : Int) = (d : Int) := by omega
        have hqB : q < lb := by omega
        have hlbI : (lb : Int) ≤ 100000 := by omega
        have hyI : (yb : Int) ≤ 57 := by omega
        have hyJ : (48 : Int) ≤ (yb : Int) := by omega
        have hbI : (b : Int) ≤ 9 := by omega
        have huI : (u : Int) ≤ 1 := by omega
        have hLB := HLB.out
        clear hbI huI
        have hbI : (b : Int) ≤ 9 := by omega
        have huI : (u : Int) ≤ 1 := by omega
        have HQ := Lib.hid hq
        clear hyy hb hbt hil hy1 hy2 hqq
        by_cases hlo : al < d
        · have a1 : decide ((al : Int) < (d : Int)) = true := decide_eq_true (by omega)
          have a1' : decide (al < d) = true := decide_eq_true hlo
          obtain ⟨ρ, hρ⟩ : ∃ ρ, al + 10 - d = ρ := ⟨_, rfl⟩
          obtain ⟨xb, hxb⟩ : ∃ xb, xa + 10 = xb := ⟨_, rfl⟩
          obtain ⟨r, hr⟩ : ∃ r, 48 + ρ = r := ⟨_, rfl⟩
          have z4 : (xa : Int) + 10 = (xb : Int) := by omega
          have z5 : (xb : Int) - (d : Int) = (r : Int) := by omega
          have xI : (xa : Int) ≤ 57 := by omega
          have xJ : (48 : Int) ≤ (xa : Int) := by omega
          have rI : (r : Int) ≤ 57 := by omega
          have bI : (xb : Int) ≤ 67 := by omega
          have dI : (d : Int) ≤ 10 := by omega
          have hch : (UInt8.ofNat xb).toNat = xb := by rw [UInt8.toNat_ofNat']; exact Nat.mod_eq_of_lt (by omega)
          have B1 := HB.out.set p (UInt8.ofNat xb)
          have hb1 : bv (UInt8.ofNat xb) = .int .u8 (xb : Int) := by unfold bv; rw [hch]
          rw [hb1] at B1
          have cP2 : (wi.setCell ⟨w.heap.size, p, none⟩ (.int .u8 (xb : Int))).cell? ⟨w.heap.size, p, none⟩ = some (.int .u8 (xb : Int)) := by
            rw [B1.cell p (by rw [List.length_set]; exact hpL), List.getElem_set_self, hb1]
          have fP2 : (wi.setCell ⟨w.heap.size, p, none⟩ (.int .u8 (xb : Int))).frozen? ⟨w.heap.size, p, none⟩ = false := B1.frozen p (by rw [List.length_set]; exact hpL)
          have B2 := B1.set p (dch ρ)
          have hb2 : bv (dch ρ) = .int .u8 (r : Int) := by unfold bv; rw [dch_toNat (by omega), hr]
          rw [hb2, List.set_set, HSET.out] at B2
          have HBN := Lib.hid B2
          have HEN := Lib.hid ((HE.out.setCell (p := ⟨w.heap.size, p, none⟩) (Nat.le_refl _) (.int .u8 (xb : Int))).setCell (p := ⟨w.heap.size, p, none⟩) (Nat.le_refl _) (.int .u8 (r : Int)))
          have HRN : Hid (∀ c ∈ dch ρ :: R, isD c = true) := Lib.hid (fun c hc => by
            rcases List.mem_cons.1 hc with h | h
            · rw [h]; unfold isD; rw [dch_toNat (by omega)]; exact decide_eq_true (by omega)
            · exact HRD.out c h)
          have HIN := Lib.hid (less_step (v := 1) HN.out HLB.out hlt HRL.out HINV.out HXA.out HBD2.out (ρ := ρ) (by omega) (by omega))
          clear B1 B2 hch hb1 hb2 hlo hxb hr hρ
          go_wp2_with fail
          refine ⟨⟨i + 1, 1, dch ρ :: R, hlt, by decide, rfl, by go_num, by rw [List.length_cons, HRL.out], HRN.out, HIN.out, HBN.out, HEN.out⟩, ?_⟩
          simp [intOf]; omega
        · have a1 : decide ((al : Int) < (d : Int)) = false := decide_eq_false (by omega)
          have a1' : decide (al < d) = false := decide_eq_false hlo
          obtain ⟨ρ, hρ⟩ : ∃ ρ, al - d = ρ := ⟨_, rfl⟩
          obtain ⟨r, hr⟩ : ∃ r, 48 + ρ = r := ⟨_, rfl⟩
          have z5 : (xa : Int) - (d : Int) = (r : Int) := by omega
          have xI : (xa : Int) ≤ 57 := by omega
          have xJ : (48 : Int) ≤ (xa : Int) := by omega
          have rI : (r : Int) ≤ 57 := by omega
          have dI : (d : Int) ≤ 10 := by omega
          have B2 := HB.out.set p (dch ρ)
          have hb2 : bv (dch ρ) = .int .u8 (r : Int) := by unfold bv; rw [dch_toNat (by omega), hr]
          rw [hb2, HSET.out] at B2
          have HBN := Lib.hid B2
          have HEN := Lib.hid (HE.out.setCell (p := ⟨w.heap.size, p, none⟩) (Nat.le_refl _) (.int .u8 (r : Int)))
          have HRN : Hid (∀ c ∈ dch ρ :: R, isD c = true) := Lib.hid (fun c hc => by
            rcases List.mem_cons.1 hc with h | h
            · rw [h]; unfold isD; rw [dch_toNat (by omega)]; exact decide_eq_true (by omega)
            · exact HRD.out c h)
          have HIN := Lib.hid (less_step (v := 0) HN.out HLB.out hlt HRL.out HINV.out HXA.out HBD2.out (ρ := ρ) (by omega) (by omega))
          clear B2 hb2 hlo hr hρ
          go_wp2_with fail
          refine ⟨⟨i + 1, 0, dch ρ :: R, hlt, by decide, rfl, by go_num, by rw [List.length_cons, HRL.out], HRN.out, HIN.out, HBN.out, HEN.out⟩, ?_⟩
          simp [intOf]; omega
      · rw [dif_neg (by omega)] at hb
        have s1 : decide ((i : Int) < (lb : Int)) = false := decide_eq_false (by omega)
        have s1' : decide (i < lb) = false := decide_eq_false (by omega)
        have hdu : u = d := by omega
        have hLB := HLB.out
        clear hb hil
        by_cases hlo : al < d
        · have a1 : decide ((al : Int) < (d : Int)) = true := decide_eq_true (by omega)
          have a1' : decide (al < d) = true := decide_eq_true hlo
          obtain ⟨ρ, hρ⟩ : ∃ ρ, al + 10 - d = ρ := ⟨_, rfl⟩
          obtain ⟨xb, hxb⟩ : ∃ xb, xa + 10 = xb := ⟨_, rfl⟩
          obtain ⟨r, hr⟩ : ∃ r, 48 + ρ = r := ⟨_, rfl⟩
          have z4 : (xa : Int) + 10 = (xb : Int) := by omega
          have z5 : (xb : Int) - (d : Int) = (r : Int) := by omega
          have xI : (xa : Int) ≤ 57 := by omega
          have xJ : (48 : Int) ≤ (xa : Int) := by omega
          have rI : (r : Int) ≤ 57 := by omega
          have bI : (xb : Int) ≤ 67 := by omega
          have dI : (d : Int) ≤ 10 := by omega
          have hch : (UInt8.ofNat xb).toNat = xb := by rw [UInt8.toNat_ofNat']; exact Nat.mod_eq_of_lt (by omega)
          have B1 := HB.out.set p (UInt8.ofNat xb)
          have hb1 : bv (UInt8.ofNat xb) = .int .u8 (xb : Int) := by unfold bv; rw [hch]
          rw [hb1] at B1
          have cP2 : (wi.setCell ⟨w.heap.size, p, none⟩ (.int .u8 (xb : Int))).cell? ⟨w.heap.size, p, none⟩ = some (.int .u8 (xb : Int)) := by
            rw [B1.cell p (by rw [List.length_set]; exact hpL), List.getElem_set_self, hb1]
          have fP2 : (wi.setCell ⟨w.heap.size, p, none⟩ (.int .u8 (xb : Int))).frozen? ⟨w.heap.size, p, none⟩ = false := B1.frozen p (by rw [List.length_set]; exact hpL)
          have B2 := B1.set p (dch ρ)
          have hb2 : bv (dch ρ) = .int .u8 (r : Int) := by unfold bv; rw [dch_toNat (by omega), hr]
          rw [hb2, List.set_set, HSET.out] at B2
          have HBN := Lib.hid B2
          have HEN := Lib.hid ((HE.out.setCell (p := ⟨w.heap.size, p, none⟩) (Nat.le_refl _) (.int .u8 (xb : Int))).setCell (p := ⟨w.heap.size, p, none⟩) (Nat.le_refl _) (.int .u8 (r : Int)))
          have HRN : Hid (∀ c ∈ dch ρ :: R, isD c = true) := Lib.hid (fun c hc => by
            rcases List.mem_cons.1 hc with h | h
            · rw [h]; unfold isD; rw [dch_toNat (by omega)]; exact decide_eq_true (by omega)
            · exact HRD.out c h)
          have HIN := Lib.hid (less_step (v := 1) HN.out HLB.out hlt HRL.out HINV.out HXA.out HBD2.out (ρ := ρ) (by omega) (by omega))
          clear B1 B2 hch hb1 hb2 hlo hxb hr hρ
          go_wp2_with fail
          refine ⟨⟨i + 1, 1, dch ρ :: R, hlt, by decide, rfl, by go_num, by rw [List.length_cons, HRL.out], HRN.out, HIN.out, HBN.out, HEN.out⟩, ?_⟩
          simp [intOf]; omega
        · have a1 : decide ((al : Int) < (d : Int)) = false := decide_eq_false (by omega)
          have a1' : decide (al < d) = false := decide_eq_false hlo
          obtain ⟨ρ, hρ⟩ : ∃ ρ, al - d = ρ := ⟨_, rfl⟩
          obtain ⟨r, hr⟩ : ∃ r, 48 + ρ = r := ⟨_, rfl⟩
          have z5 : (xa : Int) - (d : Int) = (r : Int) := by omega
          have xI : (xa : Int) ≤ 57 := by omega
          have xJ : (48 : Int) ≤ (xa : Int) := by omega
          have rI : (r : Int) ≤ 57 := by omega
          have dI : (d : Int) ≤ 10 := by omega
          have B2 := HB.out.set p (dch ρ)
          have hb2 : bv (dch ρ) = .int .u8 (r : Int) := by unfold bv; rw [dch_toNat (by omega), hr]
          rw [hb2, HSET.out] at B2
          have HBN := Lib.hid B2
          have HEN := Lib.hid (HE.out.setCell (p := ⟨w.heap.size, p, none⟩) (Nat.le_refl _) (.int .u8 (r : Int)))
          have HRN : Hid (∀ c ∈ dch ρ :: R, isD c = true) := Lib.hid (fun c hc => by
            rcases List.mem_cons.1 hc with h | h
            · rw [h]; unfold isD; rw [dch_toNat (by omega)]; exact decide_eq_true (by omega)
            · exact HRD.out c h)
          have HIN := Lib.hid (less_step (v := 0) HN.out HLB.out hlt HRL.out HINV.out HXA.out HBD2.out (ρ := ρ) (by omega) (by omega))
          clear B2 hb2 hlo hr hρ
          go_wp2_with fail
          refine ⟨⟨i + 1, 0, dch ρ :: R, hlt, by decide, rfl, by go_num, by rw [List.length_cons, HRL.out], HRN.out, HIN.out, HBN.out, HEN.out⟩, ?_⟩
          simp [intOf]; omega
    · obtain rfl : i = n := by omega
      have hp10 := dval_lt R HRD.out
      rw [HRL.out] at hp10
      have hiv := HINV.out
      rw [Nat.sub_self, show lb - i = 0 by omega, List.drop_zero, List.drop_zero, HAV.out, HBV.out] at hiv
      have hxy := HXY.out
      have hu0 : u = 0 := by
        rcases Nat.lt_or_ge u 1 with h | h
        · omega
        · exfalso
          have : u = 1 := by omega
          rw [this] at hiv
          omega
      rw [hu0, Nat.zero_mul, Nat.add_zero] at hiv
      have hres := HT.out R HRD.out hiv
      have HRB := HB.out
      rw [Nat.sub_self, List.take_zero, List.nil_append] at HRB
      have HB2 := Lib.hid HRB
      have t1 : decide ((i : Int) < (i : Int)) = false := decide_eq_false (by omega)
      have t1' : decide (i < i) = false := decide_eq_false (by omega)
      clear HRB hiv hp10 hu0 hlt hxy HT HINV HB
      go_wp2_with fail
      clear t1 t1'
      go_loop [10] (fun s10 => ∃ j : Nat, s10 = .int .i64 j ∧ j ≤ i ∧ noughtsL (R.drop j) = res) (fun s10 => i - (intOf s10).toNat)
      case atStart => exact ⟨0, rfl, Nat.zero_le _, by rw [List.drop_zero]; exact hres⟩
      case round =>
        obtain ⟨j, rfl, hj, hnj⟩ := hrel
        have HNJ := Lib.hid hnj
        clear hnj
        by_cases hji : j < i
        · have hjR : j < R.length := by rw [HRL.out]; exact hji
          have hjL : j < (R ++ List.replicate k (0 : UInt8)).length := by rw [List.length_append]; omega
          have cJ : wi.cell? ⟨w.heap.size, j, none⟩ = some (.int .u8 (R[j].toNat : Int)) := by rw [HB2.out.cell j hjL, List.getElem_append_left hjR]
          have hdr := List.drop_eq_getElem_cons hjR
          have hc := of_decide_eq_true (HRD.out R[j] (List.getElem_mem hjR))
          obtain ⟨yj, hyj⟩ : ∃ yj, R[j].toNat = yj := ⟨_, rfl⟩
          rw [hyj] at cJ hc
          have t1 : decide ((j : Int) < (i : Int)) = true := decide_eq_true (by omega)
          have t1' : decide (j < i) = true := decide_eq_true hji
          by_cases h48 : yj = 48
          · have hc48 : R[j] = 48 := UInt8.toNat_inj.1 (by rw [hyj, h48]; rfl)
            have t2 : ((yj : Int) == 48) = true := by rw [h48]; rfl
            have hN2 : Hid (noughtsL (R.drop (j + 1)) = res) := Lib.hid (by
              have := HNJ.out
              rw [hdr, hc48, noughtsL_48] at this
              exact this)
            clear hdr hc h48 hc48 hyj
            go_wp2_with fail
            go_round
            case rel => exact ⟨j + 1, by go_num, hji, hN2.out⟩
            case measure => simp [intOf]; omega
          · have t2 : ((yj : Int) == 48) = false := by rw [beq_eq_false_iff_ne]; omega
            have hN2 : Hid (R.drop j = res) := Lib.hid (by
              have := HNJ.out
              rw [hdr, noughtsL_ne (fun h => h48 (by rw [← hyj, h]; rfl)), ← hdr] at this
              exact this)
            clear hdr hc h48 hyj
            have hrb : RB wi (w.heap.size + 1) (some ⟨w.heap.size, j, none⟩) (i - j) (R.drop j) := by
              refine ⟨by rw [List.length_drop, HRL.out], fun _ => ⟨_, _, rfl, by omega, fun q hq => ?_⟩⟩
              rw [List.length_drop] at hq
              rw [HB2.out.cell (j + q) (by rw [List.length_append]; omega), List.getElem_append_left (by omega), List.getElem_drop]
            have hco := str_of_RB hrb (i + k - j)
            rw [hN2.out] at hco
            clear hrb
            go_wp2_with fail
            go_ret
            exact ⟨rfl, HE.out⟩
        · obtain rfl : j = i := by omega
          have t1 : decide ((j : Int) < (j : Int)) = false := decide_eq_false (by omega)
          have t1' : decide (j < j) = false := decide_eq_false (by omega)
          have hN2 : Hid (res = []) := Lib.hid (by
            have := HNJ.out
            rw [List.drop_of_length_le (by rw [HRL.out]; exact Nat.le_refl _)] at this
            exact this.symm)
          have hco := fun (A : Option Addr) (c : Nat) => str_of_RB (RB.nil wi (w.heap.size + 1) A) c
          clear hji
          go_wp2_with fail
          all_goals
            go_ret
            exact ⟨by rw [hN2.out] <;> rfl, HE.out⟩
end Go.Proofs.YtnajondbdeclmaaGreatDoor
