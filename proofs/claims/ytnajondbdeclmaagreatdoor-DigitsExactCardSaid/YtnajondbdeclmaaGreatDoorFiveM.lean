/- The reference's digits: a number's text (number), a size's text (Form). -/
import Derived.Test.YtnajondbdeclmaaGreatDoorFiveF
namespace Go.Proofs.YtnajondbdeclmaaGreatDoor
open Go.RowKit
set_option linter.unusedSimpArgs false
set_option linter.unusedVariables false

/-- A text's length. -/
def sLen0 : Value → Nat
  | .string b => b.size
  | _ => 0
theorem ten_digits : ∀ k : Fin 10, (⟨#[48, 49, 50, 51, 52, 53, 54, 55, 56, 57]⟩ : ByteArray).extract k.val (k.val + 1) = ⟨#[UInt8.ofNat (48 + k.val)]⟩ := by decide
set_option maxRecDepth 100000 in
set_option maxHeartbeats 4000000 in
theorem rnum_small (n : Nat) (w : World) (h : n < 10) :
    Calls Tryz.prog 72 #[.int .i64 (n : Int)] w fun e w' => e = .returned (.string ⟨#[UInt8.ofNat (48 + n)]⟩) ∧ w = w' := by
  have hx0 : (⟨#[48, 49, 50, 51, 52, 53, 54, 55, 56, 57]⟩ : ByteArray).extract n (n + 1) = ⟨#[UInt8.ofNat (48 + n)]⟩ := ten_digits ⟨n, h⟩
  have hnI : (n : Int) < 10 := by omega
  have t1 : decide ((n : Int) < 10) = true := decide_eq_true hnI
  have kw : (n : Int) + 1 = ((n + 1 : Nat) : Int) := by omega
  have hle : n ≤ n + 1 := by omega
  generalize UInt8.ofNat (48 + n) = c at *
  obtain ⟨m, hm⟩ : ∃ m, n + 1 = m := ⟨_, rfl⟩
  rw [hm] at kw hle
  have hx : (⟨#[48, 49, 50, 51, 52, 53, 54, 55, 56, 57]⟩ : ByteArray).extract n m = ⟨#[c]⟩ := by rw [← hm]; exact hx0
  have hm10 : m ≤ 10 := by omega
  clear hm h hx0
  go_enter Tryz.func72, Tryz.ntmps72
  go_wp2_with fail
  go_ret
  exact ⟨rfl, rfl⟩
set_option maxRecDepth 100000 in
set_option maxHeartbeats 400000 in
theorem rnum_any (n : Nat) : ∀ (w : World), n < 9223372036854775808 →
    Calls Tryz.prog 72 #[.int .i64 (n : Int)] w fun e w' => e = .returned (.string ⟨(Lib.decDigits n).toArray⟩) ∧ w = w' := by
  induction n using Nat.strongRecOn with
  | _ n ih =>
    intro w hn
    by_cases h : n < 10
    · rw [Lib.decDigits, dif_pos h]
      exact rnum_small n w h
    · obtain ⟨q, hq⟩ : ∃ q, n / 10 = q := ⟨_, rfl⟩
      obtain ⟨r, hr⟩ : ∃ r, n % 10 = r := ⟨_, rfl⟩
      have IH := Lib.hid (fun W => ih q (by omega) W (by omega))
      have IS := Lib.hid (fun W => rnum_small r W (by omega))
      have hdd : Lib.decDigits n = Lib.decDigits q ++ [UInt8.ofNat (48 + r)] := by rw [Lib.decDigits, dif_neg h, hq]; subst hr; rfl
      have hln : (Lib.decDigits q).length ≤ 20 := by
        rw [Lib.decDigits_length]
        exact Lib.nDigits_le20 _ (by omega)
      have hlI : ((Lib.decDigits q).length : Int) ≤ 20 := by omega
      have t1 : decide ((n : Int) < 10) = false := decide_eq_false (by omega)
      have kq : (n : Int) / 10 = (q : Int) := by omega
      have kr : (n : Int) % 10 = (r : Int) := by omega
      rw [hdd]
      generalize Lib.decDigits q = D at *
      generalize UInt8.ofNat (48 + r) = c at *
      have hcat := sv_cat D [c]
      have hnI : (n : Int) < 9223372036854775808 := by omega
      clear ih hq hr hdd h hln
      go_enter Tryz.func72, Tryz.ntmps72
      go_wp2_with fail
      refine (IH.out _).mono ?_
      rintro e w1 ⟨rfl, rfl⟩
      go_wp2_with fail
      refine (IS.out _).mono ?_
      rintro e w1 ⟨rfl, rfl⟩
      go_wp2_with fail
      go_ret
      exact ⟨rfl, rfl⟩
theorem cut_in (l : List UInt8) (a b n : Nat) (h : l.length = n) (hb : b ≤ n) : (⟨l.toArray⟩ : ByteArray).extract a b = ⟨((l.drop a).take (b - a)).toArray⟩ := by
  apply ByteArray.ext
  subst h
  simp
set_option maxRecDepth 100000 in
set_option maxHeartbeats 2000000 in
theorem rform_walk (s S rest out : List UInt8) (L P : Nat) (w : World) (hs : s.length ≤ 5000) (hS : S = List.replicate (1076 - s.length) 48 ++ s) (hL : S.length = L) (hP : P + 1075 = L)
    (hrest : noughtsR (S.drop P) = rest) (hout : out = S.take P ++ pB rest) :
    Calls Tryz.prog 74 #[.string ⟨s.toArray⟩] w fun e w' => e = .returned (.string ⟨out.toArray⟩) ∧ w = w' := by
  have hL2 : L ≤ 6076 ∧ 1076 ≤ L ∧ s.length ≤ L := by rw [← hL, hS, List.length_append, List.length_replicate]; omega
  obtain ⟨l0, hl0⟩ : ∃ l0, s.length = l0 := ⟨_, rfl⟩
  have HSS := Lib.hid hS
  have HL := Lib.hid hL
  have HP := Lib.hid hP
  have HRS := Lib.hid hrest
  have HO := Lib.hid hout
  have HL2 := Lib.hid hL2
  have HL0 := Lib.hid hl0
  clear hs hS hL hP hrest hout hL2
  go_enter Tryz.func74, Tryz.ntmps74
  go_wp2_with fail
  go_loop [0] (fun s0 => ∃ a : Nat, s0 = .string ⟨(List.replicate a 48 ++ s).toArray⟩ ∧ a ≤ 1076 - l0) (fun s0 => 1076 - sLen0 s0)
  case atStart => exact ⟨0, by simp, Nat.zero_le _⟩
  case round =>
    obtain ⟨a, rfl, ha⟩ := hrel
    obtain ⟨T, hT⟩ : ∃ T, List.replicate a 48 ++ s = T := ⟨_, rfl⟩
    obtain ⟨m, hm⟩ : ∃ m, T.length = m := ⟨_, rfl⟩
    have hma : m = a + l0 := by rw [← hm, ← hT, List.length_append, List.length_replicate, hl0]
    rw [hT]
    have hl2 := HL2.out
    have hmI : (m : Int) ≤ 6076 := by omega
    by_cases hlt : m < 1076
    · have t1 : decide ((m : Int) < 1076) = true := decide_eq_true (by omega)
      have hcat := sv_cat [48] T
      have hN := Lib.hid (show [48] ++ T = List.replicate (a + 1) 48 ++ s by rw [← hT, List.replicate_succ]; rfl)
      have ha2 : a + 1 ≤ 1076 - l0 := by omega
      clear hT hma ha hl2
      generalize hT2 : [48] ++ T = T2 at *
      have hm2 : T2.length = m + 1 := by rw [← hT2, List.length_append, hm]; simp; omega
      clear hT2
      go_wp2_with fail
      go_round
      case rel => exact ⟨a + 1, by rw [hN.out], ha2⟩
      case measure =>
        show 1076 - T2.length < 1076 - T.length
        omega
    · have hTS : T = S := by rw [← hT, HSS.out, HL0.out, show a = 1076 - l0 by omega]
      subst hTS
      have hmL : m = L := by rw [← hm]; exact HL.out
      subst hmL
      have t1 : decide ((m : Int) < 1076) = false := decide_eq_false (by omega)
      have hPI : (P : Int) ≤ 6076 := by have := HP.out; omega
      have kP : (m : Int) - 1075 = (P : Int) := by have := HP.out; omega
      clear hT hma ha hlt
      go_wp2_with fail
      clear t1
      go_loop [3] (fun s3 => ∃ j : Nat, s3 = .int .i64 j ∧ P ≤ j ∧ j ≤ m ∧ noughtsR ((T.drop P).take (j - P)) = rest) (fun s3 => (intOf s3).toNat)
      case atStart => exact ⟨m, rfl, by omega, Nat.le_refl _, by rw [List.take_of_length_le (by rw [List.length_drop, hm]; exact Nat.le_refl _)]; exact HRS.out⟩
      case round =>
        obtain ⟨j, rfl, hj1, hj2, hjr⟩ := hrel
        have HJR := Lib.hid hjr
        clear hjr
        have hjI : (j : Int) ≤ 6076 := by omega
        by_cases hjP : j = P
        · subst hjP
          have hre : Hid (rest = []) := Lib.hid (by have := HJR.out; rw [Nat.sub_self, List.take_zero] at this; rw [← this]; rfl)
          have t1 : decide ((j : Int) < (j : Int)) = false := decide_eq_false (by omega)
          have t1' : decide (j < j) = false := decide_eq_false (by omega)
          have hc1 := cut_take T j
          have hTl : (T.take j).length = j := by rw [List.length_take, hm]; omega
          have hV : Hid (out = T.take j) := Lib.hid (by rw [HO.out, hre.out]; simp [pB])
          generalize T.take j = H at *
          have t2 : ((j : Int) == (j : Int)) = true := by rw [beq_iff_eq]
          go_wp2_with fail
          go_ret
          exact ⟨by rw [hV.out] <;> rfl, rfl⟩
        · have t1 : decide ((P : Int) < (j : Int)) = true := decide_eq_true (by omega)
          have t1' : decide (P < j) = true := decide_eq_true (by omega)
          obtain ⟨i, hi⟩ : ∃ i, j = i + 1 := ⟨j - 1, by omega⟩
          have him : i < T.length := by omega
          have hb4 := bget T i him
          have hbe : bt T i = (T[i]).toNat := bt_some (List.getElem?_eq_getElem him)
          have kj : (j : Int) - 1 = (i : Int) := by omega
          have htk : (T.drop P).take (j - P) = (T.drop P).take (i - P) ++ [T[i]] := by
            have h2 := List.take_succ_eq_append_getElem (l := T.drop P) (i := i - P) (by rw [List.length_drop]; omega)
            rw [show j - P = i - P + 1 by omega, h2, List.getElem_drop]
            congr 3
            omega
          have hb256 : bt T i < 256 := by rw [hbe]; exact UInt8.toNat_lt _
          obtain ⟨y, hy⟩ : ∃ y, bt T i = y := ⟨_, rfl⟩
          rw [hy] at hb4 hbe hb256
          have hyI : (y : Int) < 256 := by omega
          by_cases h48 : y = 48
          · have hc : T[i] = 48 := UInt8.toNat_inj.1 (by rw [← hbe, h48]; rfl)
            have t2 : ((y : Int) == 48) = true := by rw [h48]; rfl
            have hN : Hid (noughtsR ((T.drop P).take (i - P)) = rest) := Lib.hid (by
              have := HJR.out
              rw [htk, hc] at this
              rw [← this]
              exact (noughtsR_app _ 1).symm)
            have hi1 : P ≤ i := by omega
            have hi2 : i ≤ m := by omega
            clear hjP hi hbe htk hy h48 hc hb256
            go_wp2_with fail
            go_round
            case rel => exact ⟨i, by go_num, hi1, hi2, hN.out⟩
            case measure => simp [intOf]; omega
          · have t2 : ((y : Int) == 48) = false := by rw [beq_eq_false_iff_ne]; omega
            have hre : Hid (rest = (T.drop P).take (j - P)) := Lib.hid (by
              have := HJR.out
              rw [← this]
              refine noughtsR_is ?_
              rw [htk]
              simp
              intro h
              exact h48 (by rw [hbe, h]; rfl))
            have hre2 : rest ≠ [] := by rw [hre.out, htk]; simp
            have hTl : (T.take P).length = P := by rw [List.length_take, hm]; omega
            have hc1 := cut_take T P
            have hc2 := cut_in T P j m hm (by omega)
            rw [← hre.out] at hc2
            have hV : Hid (out = T.take P ++ [46] ++ rest) := Lib.hid (by rw [HO.out]; unfold pB; rw [if_neg hre2]; simp)
            have q1 := sv_cat (T.take P) [46]
            have q2 := sv_cat (T.take P ++ [46]) rest
            have q3 : (((T.take P ++ [46]).length : Nat) : Int) ≤ 7000 := by rw [List.length_append, hTl, List.length_singleton]; omega
            have q4 : ((rest.length : Nat) : Int) ≤ 7000 := by rw [hre.out, List.length_take, List.length_drop]; omega
            generalize T.take P ++ [46] = H2 at *
            generalize T.take P = H at *
            have t3 : ((j : Int) == (P : Int)) = false := by rw [beq_eq_false_iff_ne]; omega
            have hPj : P ≤ j := hj1
            clear hi hbe htk hy h48 hb256 hre2
            go_wp2_with fail
            go_ret
            exact ⟨by rw [hV.out] <;> rfl, rfl⟩
theorem padN_tx (x : Nat) : padN x = List.replicate (unitE + 1 - (tx x).length) 48 ++ tx x := by
  unfold padN
  rcases Nat.eq_zero_or_pos x with h | h
  · rw [h, tx_zero]
    have h1 : lenD 0 = 1 := by decide
    have h2 : dtext 0 = [48] := by decide
    rw [h1, h2, List.append_nil, List.length_nil, Nat.sub_zero, Nat.add_sub_cancel, ← List.replicate_succ']
  · rw [tx_pos h]; rfl
theorem rform_any (x : Nat) (w : World) (hx : (tx x).length ≤ 5000) :
    Calls Tryz.prog 74 #[.string ⟨(tx x).toArray⟩] w fun e w' => e = .returned (.string ⟨(formN x).toArray⟩) ∧ w = w' := by
  have hp := padN_tx x
  have hu : unitE + 1 = 1076 := rfl
  have hu2 : unitE = 1075 := rfl
  have hlen : unitE < (padN x).length := padN_len x
  have e1 : formN x = (padN x).take ((padN x).length - unitE) ++ pB (noughtsR ((padN x).drop ((padN x).length - unitE))) := by unfold formN wholeN restN; exact Eq.refl _
  rw [hu] at hp
  generalize formN x = o at *
  generalize padN x = S at *
  obtain ⟨P, hP⟩ : ∃ P, S.length - unitE = P := ⟨_, rfl⟩
  rw [hP] at e1
  exact rform_walk (tx x) S _ o S.length P w hx hp rfl (by omega) rfl e1
end Go.Proofs.YtnajondbdeclmaaGreatDoor
