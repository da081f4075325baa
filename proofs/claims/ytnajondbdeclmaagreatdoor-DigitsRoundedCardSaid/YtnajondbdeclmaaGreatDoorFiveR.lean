/- The reference's digits: a float rounded to so many digits (Rounded). -/
import Derived.Test.YtnajondbdeclmaaGreatDoorFiveF
import Derived.Test.YtnajondbdeclmaaGreatDoorRoundP
namespace Go.Proofs.YtnajondbdeclmaaGreatDoor
open Go.RowKit
set_option linter.unusedSimpArgs false
set_option linter.unusedVariables false

set_option maxRecDepth 100000 in
set_option maxHeartbeats 4000000 in
theorem rrounded_walk (n k : Nat) (s : List UInt8) (d : List UInt8) (x : Int) (w : World)
    (HF : Hid (∀ W, Calls Tryz.prog 58 #[.int .u64 (n : Int)] W fun e w' => e = .returned (.bool true) ∧ W = w'))
    (HSZ : Hid (∀ W, Calls Tryz.prog 59 #[.int .u64 (n : Int)] W fun e w' => e = .returned (.string ⟨s.toArray⟩) ∧ Below W.heap.size W w'))
    (HRR : Hid (∀ W, Calls Tryz.prog 66 #[.string ⟨(roundL s k).toArray⟩] W fun e w' => e = .returned (.tuple #[.string ⟨d.toArray⟩, .int .i64 x]) ∧ W = w'))
    (h1 : 1 ≤ k) (h2 : k ≤ 800) (hsl : s.length ≤ 5000) (hd : ∀ c ∈ s, isD c = true) (h0 : s ≠ []) (hh : s.head? ≠ some 48) :
    Calls Tryz.prog 25 #[.int .u64 (n : Int), .int .i64 k] w fun e w' => e = .returned (.tuple #[.string ⟨d.toArray⟩, .int .i64 x, .int .i64 0]) ∧ Below w.heap.size w w' := by
  have HD := Lib.hid hd
  have HH := Lib.hid hh
  have hsI : (s.length : Int) ≤ 5000 := by omega
  have hkI : (k : Int) ≤ 800 := by omega
  have hk1 : (1 : Int) ≤ (k : Int) := by omega
  have t1 : decide ((k : Int) < 1) = false := decide_eq_false (by omega)
  have t2 : decide ((800 : Int) < (k : Int)) = false := decide_eq_false (by omega)
  have t2' : decide (800 < k) = false := decide_eq_false (by omega)
  have HK1 := Lib.hid h1
  have HRL := Lib.hid (show roundL s k = if k < s.length then (if upL s k then dtext (dval (s.take k) + 1) else s.take k) ++ List.replicate (s.length - k) 48 else s from rfl)
  have HRLl : Hid ((roundL s k).length ≤ 1000000) := Lib.hid (by
    unfold roundL
    split
    · rw [List.length_append, List.length_replicate]
      split
      · have : (dtext (dval (s.take k) + 1)).length ≤ k + 1 := by
          refine dtext_len ?_ (by omega)
          have := dval_lt (s.take k) (fun c hc => hd c (List.mem_of_mem_take hc))
          rw [List.length_take, Nat.min_eq_left (by omega)] at this
          rw [Nat.pow_succ]
          omega
        omega
      · rw [List.length_take]; omega
    · omega)
  generalize roundL s k = R at *
  clear hd hh h1 h2 hsl
  go_enter Tryz.func25, Tryz.ntmps25
  go_wp2_with fail
  refine (HF.out _).mono ?_
  rintro e w1 ⟨rfl, rfl⟩
  go_wp2_with fail
  refine (HSZ.out _).mono ?_
  rintro e w2 ⟨rfl, hb⟩
  have BB := Lib.hid hb
  clear hb t1 t2 t2' HF HSZ
  obtain ⟨tb, htb⟩ : ∃ tb, decide (k < s.length) = tb := ⟨_, rfl⟩
  have htb2 : decide ((k : Int) < (s.length : Int)) = tb := by rw [← htb, decide_eq_decide]; omega
  have HTB := Lib.hid htb
  have hse : s.isEmpty = false := by cases s <;> simp_all
  go_upto_if 31 with fail
  clear hse
  clear htb htb2
  go_cut [7] from 7 to 65 (fun s7 wx => s7 = .string ⟨R.toArray⟩ ∧ Below w.heap.size w wx)
  case first =>
    cases tb with
    | false =>
      have HV := Lib.hid (show R = s by rw [HRL.out, if_neg (by have := of_decide_eq_false HTB.out; exact this)])
      go_wp2_with fail
      go_meet
      exact ⟨by rw [HV.out], BB.out⟩
    | true =>
      have hlt := of_decide_eq_true HTB.out
      have HLT := Lib.hid hlt
      obtain ⟨j, hj⟩ : ∃ j, s.length - k = j := ⟨_, rfl⟩
      have e1 := cut_take s k
      have e2 := cut_drop s k s.length rfl
      have hkl : (k : Int) ≤ (s.length : Int) := by omega
      have hTl : (s.take k).length = k := by rw [List.length_take]; omega
      have hDl : (s.drop k).length = j := by rw [List.length_drop]; exact hj
      have HUP := Lib.hid (show upL s k = ((!(Op.bytesLess (s.drop k) (halfL j) || s.drop k == halfL j)) || (s.drop k == halfL j && bt (s.take k) (k - 1) % 2 == 1)) by unfold upL; rw [hj])
      have HRV := Lib.hid (show R = (if upL s k then dtext (dval (s.take k) + 1) else s.take k) ++ List.replicate j 48 by rw [HRL.out, if_pos hlt, hj])
      have HRA := Lib.hid (fun W => rnext_any (s.take k) (fun c hc => HD.out c (List.mem_of_mem_take hc)) (by intro h; have h2 := congrArg List.length h; rw [hTl] at h2; have := HK1.out; simp at h2; omega) (by rw [List.head?_take, if_neg (by have := HK1.out; omega)]; exact HH.out) (by omega) W)
      generalize upL s k = up at *
      generalize s.take k = T at *
      generalize s.drop k = D at *
      have hb4 := bget T (k - 1) (by have := HK1.out; omega)
      have hkT : k - 1 < T.length := by have := HK1.out; omega
      have hj0 : 0 < j := by omega
      have kk : IntKind.i64.wrap ((k : Int) - 1) = ((k - 1 : Nat) : Int) := by rw [IntWalk.i64_in _ (by omega)]; omega
      obtain ⟨z, hz⟩ : ∃ z, j - 1 = z := ⟨_, rfl⟩
      have hzI : (j : Int) - 1 = (z : Int) := by omega
      have kz : IntKind.i64.wrap ((j : Int) - 1) = (z : Int) := by rw [IntWalk.i64_in _ (by omega)]; exact hzI
      have hhl : halfL j = [53] ++ List.replicate z 48 := by unfold halfL; rw [hz]
      have HZ := Lib.hid (fun W => rnoughts_any z W (by omega))
      have HJ := Lib.hid (fun W => rnoughts_any j W (by omega))
      rw [hhl] at HUP
      have hq1 := sv_cat [53] (List.replicate z 48)
      have lz : ((List.replicate z (48 : UInt8)).length : Int) ≤ 5000 := by rw [List.length_replicate]; omega
      have lj : ((List.replicate j (48 : UInt8)).length : Int) ≤ 5000 := by rw [List.length_replicate]; omega
      have lT : (T.length : Int) ≤ 5000 := by omega
      generalize hHf : [53] ++ List.replicate z (48 : UInt8) = Hf at *
      clear hHf hz hzI hhl hj HRL hlt
      rw [hTl] at lT
      go_upto_region 9 with fail
      go_quiet (fail)
      clear e1 e2
      have HBN := Lib.hid (below_drewN BB.out nq)
      generalize w2.drewN nq = wz at *
      generalize hZZ : List.replicate z (48 : UInt8) = Z at *
      generalize hJJ : List.replicate j (48 : UInt8) = J at *
      clear hZZ hJJ
      go_wp2_with fail
      refine (HZ.out _).mono ?_
      rintro e w4 ⟨rfl, rfl⟩
      have HB4 := HBN
      go_upto_region 11 with fail
      generalize hbl : Op.bytesLess D Hf = b1 at *
      go_cut [58] from 43 to 58 (fun s58 wx => s58 = .bool up ∧ wz = wx)
      case first =>
        by_cases hde : D = Hf
        · have HV := Lib.hid (show up = (bt T (k - 1) % 2 == 1) by rw [HUP.out, hde, beq_self_eq_true, Bool.or_true]; rfl)
          clear HUP hbl
          subst hde
          have hb256 : bt T (k - 1) < 256 := by rw [← hb4]; exact UInt8.toNat_lt _
          generalize bt T (k - 1) = x at *
          have hx0 : (x : Int) < 256 := by omega
          by_cases hp : x % 2 = 1
          · have p1 : ((x : Int) % 2 == 1) = true := by rw [beq_iff_eq]; omega
            have p2 : (x % 2 == 1) = true := by rw [beq_iff_eq]; exact hp
            have HVV := Lib.hid (show up = true by rw [HV.out, p2])
            clear hp
            go_wp2_with fail
            go_meet
            exact ⟨by rw [HVV.out] <;> rfl, rfl⟩
          · have p1 : ((x : Int) % 2 == 1) = false := by rw [beq_eq_false_iff_ne]; omega
            have p2 : (x % 2 == 1) = false := by rw [beq_eq_false_iff_ne]; exact hp
            have HVV := Lib.hid (show up = false by rw [HV.out, p2])
            clear hp
            go_wp2_with fail
            go_meet
            exact ⟨by rw [HVV.out] <;> rfl, rfl⟩
        · have n1 : (D == Hf) = false := by rw [beq_eq_false_iff_ne]; exact hde
          have HV := Lib.hid (show up = !b1 by rw [HUP.out, n1]; simp)
          cases b1
          all_goals
            go_wp2_with fail
            go_meet
            exact ⟨by rw [HV.out] <;> rfl, rfl⟩
      case rest =>
      obtain ⟨rfl, hwx⟩ := hcut
      subst hwx
      clear hbl hb4
      cases up with
      | true =>
        have HV := Lib.hid (show R = dtext (dval T + 1) ++ J by rw [HRV.out]; rfl)
        have hcat := sv_cat (dtext (dval T + 1)) J
        have hlen2 : ((dtext (dval T + 1)).length : Int) ≤ 1000000 := by
          have := HRLl.out
          have := congrArg List.length HV.out
          rw [List.length_append] at this
          omega
        generalize dtext (dval T + 1) = T1 at *
        go_wp2_with fail
        refine (HRA.out _).mono ?_
        rintro e w5 ⟨rfl, hb⟩
        have HB5 := Lib.hid (keepb HB4.out hb)
        clear hb
        go_wp2_with fail
        refine (HJ.out _).mono ?_
        rintro e w6 ⟨rfl, rfl⟩
        have HB6 := HB5
        go_wp2_with fail
        go_meet
        exact ⟨by rw [HV.out] <;> rfl, HB6.out⟩
      | false =>
        have HV := Lib.hid (show R = T ++ J by rw [HRV.out]; rfl)
        have hcat := sv_cat T J
        go_wp2_with fail
        refine (HJ.out _).mono ?_
        rintro e w6 ⟨rfl, rfl⟩
        have HB6 := HB4
        go_wp2_with fail
        go_meet
        exact ⟨by rw [HV.out] <;> rfl, HB6.out⟩
  case rest =>
  obtain ⟨rfl, hbx⟩ := hcut
  have HBX := Lib.hid hbx
  clear hbx
  go_wp2_with fail
  refine (HRR.out _).mono ?_
  rintro e w4 ⟨rfl, rfl⟩
  go_wp2_with fail
  go_ret3
  exact ⟨rfl, HBX.out⟩end Go.Proofs.YtnajondbdeclmaaGreatDoor
namespace Go.Proofs.YtnajondbdeclmaaGreatDoor
open Go.RowKit
set_option linter.unusedSimpArgs false
set_option linter.unusedVariables false

set_option maxRecDepth 100000 in
theorem rrounded_inf (n : Nat) (k : Int) (w : World) (hn : n < 18446744073709551616) (h : most < n % 9223372036854775808) :
    Calls Tryz.prog 25 #[.int .u64 (n : Int), .int .i64 k] w fun e w' => e = .returned (.tuple #[.string ⟨#[]⟩, .int .i64 0, .int .i64 50]) ∧ Below w.heap.size w w' := by
  have HF := Lib.hid (fun W => by have := rfinite_any n W hn; rwa [show finB n = false by unfold finB; exact decide_eq_false (by omega)] at this)
  clear h hn
  go_enter Tryz.func25, Tryz.ntmps25
  go_wp2_with fail
  refine (HF.out _).mono ?_
  rintro e w1 ⟨rfl, rfl⟩
  go_wp2_with fail
  go_ret3
  exact ⟨rfl, Below.refl _ _⟩
set_option maxRecDepth 100000 in
theorem rrounded_bad (n : Nat) (k : Int) (w : World) (hn : n < 18446744073709551616) (h : n % 9223372036854775808 ≤ most) (hk : k < 1 ∨ 800 < k) :
    Calls Tryz.prog 25 #[.int .u64 (n : Int), .int .i64 k] w fun e w' => e = .returned (.tuple #[.string ⟨#[]⟩, .int .i64 0, .int .i64 2]) ∧ Below w.heap.size w w' := by
  have HF := Lib.hid (fun W => by have := rfinite_any n W hn; rwa [show finB n = true by unfold finB; exact decide_eq_true h] at this)
  clear h hn
  have hc : (decide (k < 1) = true) ∨ (decide (k < 1) = false ∧ decide (800 < k) = true) := by
    rcases hk with h | h
    · exact .inl (decide_eq_true h)
    · by_cases h2 : k < 1
      · exact .inl (decide_eq_true h2)
      · exact .inr ⟨decide_eq_false h2, decide_eq_true h⟩
  clear hk
  rcases hc with t1 | ⟨t1, t2⟩
  all_goals
    go_enter Tryz.func25, Tryz.ntmps25
    go_wp2_with fail
    refine (HF.out _).mono ?_
    rintro e w1 ⟨rfl, rfl⟩
    go_wp2_with fail
    go_ret3
    exact ⟨rfl, Below.refl _ _⟩
set_option maxRecDepth 100000 in
theorem rrounded_zero (n : Nat) (k : Int) (w : World) (hn : n < 18446744073709551616) (h : n % 9223372036854775808 = 0) (hk1 : 1 ≤ k) (hk2 : k ≤ 800) :
    Calls Tryz.prog 25 #[.int .u64 (n : Int), .int .i64 k] w fun e w' => e = .returned (.tuple #[.string ⟨#[48]⟩, .int .i64 1, .int .i64 0]) ∧ Below w.heap.size w w' := by
  have HF := Lib.hid (fun W => by have := rfinite_any n W hn; rwa [show finB n = true by unfold finB; exact decide_eq_true (by rw [h]; decide)] at this)
  have hz : sz 0 = 0 := by unfold sz; rw [Fl_zero, Nat.mul_zero, Nat.zero_mul]
  have HS := Lib.hid (fun W => by have := rsize_any n 0 W hn h (by decide); rwa [hz, tx_zero] at this)
  have t1 : decide (k < 1) = false := decide_eq_false (by omega)
  have t2 : decide (800 < k) = false := decide_eq_false (by omega)
  clear h hn hz
  go_enter Tryz.func25, Tryz.ntmps25
  go_wp2_with fail
  refine (HF.out _).mono ?_
  rintro e w1 ⟨rfl, rfl⟩
  go_wp2_with fail
  refine (HS.out _).mono ?_
  rintro e w2 ⟨rfl, hb⟩
  go_wp2_with fail
  go_ret3
  exact ⟨rfl, hb⟩
theorem rrounded_fin (n b k : Nat) (w : World) (hn : n < 18446744073709551616) (hbn : n % 9223372036854775808 = b) (hb : b ≤ most) (h0 : b ≠ 0) (h1 : 1 ≤ k) (h2 : k ≤ 800) :
    Calls Tryz.prog 25 #[.int .u64 (n : Int), .int .i64 k] w fun e w' => e = .returned (.tuple #[.string ⟨(rowN (roundN (sz b) k)).1.toArray⟩, .int .i64 (rowN (roundN (sz b) k)).2, .int .i64 0]) ∧ Below w.heap.size w w' := by
  have hS := sz_lt hb
  have hL := lenD_le hS
  have hle : lenE = 2160 := rfl
  have hp := sz_pos (show 0 < b by omega)
  have HF := Lib.hid (fun W => by have := rfinite_any n W hn; rwa [show finB n = true by unfold finB; rw [hbn]; exact decide_eq_true hb] at this)
  have HS := Lib.hid (fun W => by have := rsize_any n b W hn hbn hb; rwa [tx_pos hp] at this)
  generalize sz b = S at *
  have hX : 0 < roundN S k ∧ (dtext (roundN S k)).length ≤ 100000 := by
    have h := roundL_text hp h1
    have hrl : roundL (dtext S) k = if k < (dtext S).length then (if upL (dtext S) k then dtext (dval ((dtext S).take k) + 1) else (dtext S).take k) ++ List.replicate ((dtext S).length - k) 48 else dtext S := rfl
    have hle2 : lenD S = (dtext S).length := rfl
    constructor
    · by_cases hlt : k < lenD S
      · obtain ⟨_, h2', v, h3, h4⟩ := round_near hlt
        have hge := lenD_ge hp
        have hv : 0 < S / 10 ^ (lenD S - k) := Nat.div_pos (Nat.le_trans (Nat.pow_le_pow_right (by decide) (by omega)) hge) (pow10 _)
        rw [h3]
        exact Nat.mul_pos (by omega) (pow10 _)
      · unfold roundN; rw [if_neg hlt]; exact hp
    · rw [← h, hrl]
      split
      · rw [List.length_append, List.length_replicate]
        split
        · have : (dtext (dval ((dtext S).take k) + 1)).length ≤ k + 1 := by
            refine dtext_len ?_ (by omega)
            have := dval_lt ((dtext S).take k) (fun c hc => dtext_digits S c (List.mem_of_mem_take hc))
            rw [List.length_take, Nat.min_eq_left (by omega)] at this
            rw [Nat.pow_succ]
            omega
          omega
        · rw [List.length_take]; omega
      · omega
  refine rrounded_walk n k (dtext S) _ _ w HF HS (Lib.hid (fun W => ?_)) h1 h2 (by show lenD S ≤ 5000; omega) (dtext_digits _) (dtext_ne _) (dtext_head hp)
  rw [roundL_text hp h1]
  exact rrow_any _ hX.1 W hX.2
end Go.Proofs.YtnajondbdeclmaaGreatDoor
