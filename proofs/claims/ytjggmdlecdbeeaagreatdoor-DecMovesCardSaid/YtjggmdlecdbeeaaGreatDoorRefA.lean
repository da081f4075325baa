/- The reference of decimals: the walks of digit, over, Wrong. The reference of decimals: the walks of Strip, Near, Sign. The reference of decimals: the walks of Near, Sign, Compare; the plain law of a literal without its minus. -/
import Derived.Test.YtjggmdlecdbeeaaGreatDoorDecN
import Derived.Test.YtjggmdlecdbeeaaGreatDoorDecS
import Derived.Deep.LoopGhost
import Derived.Deep.CutBlock
import Derived.WalkLawsBesides
namespace Go.Proofs.YtjggmdlecdbeeaaGreatDoor
open Go.RowKit
set_option linter.unusedSimpArgs false
set_option linter.unusedVariables false

set_option maxRecDepth 100000 in
theorem rdigit_any (s : List UInt8) (i : Nat) (w : World) (hs : s.length ≤ 140737488353000) (hi : i ≤ 140737488353100) :
    Calls Tryz.prog 56 #[sv s, .int .i64 (i : Int)] w fun e w' => e = .returned (.bool (dAt s i)) ∧ w = w' := by
  have hsI : ((s.length : Nat) : Int) ≤ 140737488353000 := by omega
  rcases Nat.lt_or_ge i s.length with h | h
  · have hd := dAt_get h
    have hb := bget s i h
    have u1 : decide (((i : Nat) : Int) < ((s.length : Nat) : Int)) = true := decide_eq_true (by omega)
    have u2 : decide (i < s.length) = true := decide_eq_true h
    have hI : ((i : Nat) : Int) < ((s.length : Nat) : Int) := by omega
    have hx : isD s[i] = (decide (48 ≤ bt s i) && decide (bt s i ≤ 57)) := by
      rw [show bt s i = s[i].toNat by rw [← hb]; rfl]
      unfold isD
      rw [Bool.eq_iff_iff]; simp
    rw [hx] at hd
    have HD := Lib.hid hd
    clear hd hx hs hi
    generalize bt s i = y at *
    by_cases h1 : 48 ≤ y
    · by_cases h2 : y ≤ 57
      · have t1 : decide ((48 : Int) ≤ (y : Int)) = true := decide_eq_true (by omega)
        have t2 : decide ((y : Int) ≤ 57) = true := decide_eq_true (by omega)
        have HV := Lib.hid (show dAt s i = true by rw [HD.out, decide_eq_true h1, decide_eq_true h2]; rfl)
        clear h1 h2
        unfold sv
        go_enter Tryz.func56, Tryz.ntmps56
        go_wp2_with fail
        go_ret
        exact ⟨by rw [HV.out] <;> rfl, rfl⟩
      · have t1 : decide ((48 : Int) ≤ (y : Int)) = true := decide_eq_true (by omega)
        have t2 : decide ((y : Int) ≤ 57) = false := decide_eq_false (by omega)
        have HV := Lib.hid (show dAt s i = false by rw [HD.out, decide_eq_true h1, decide_eq_false h2]; rfl)
        clear h1 h2
        unfold sv
        go_enter Tryz.func56, Tryz.ntmps56
        go_wp2_with fail
        go_ret
        exact ⟨by rw [HV.out] <;> rfl, rfl⟩
    · have t1 : decide ((48 : Int) ≤ (y : Int)) = false := decide_eq_false (by omega)
      have HV := Lib.hid (show dAt s i = false by rw [HD.out, decide_eq_false h1]; rfl)
      clear h1
      unfold sv
      go_enter Tryz.func56, Tryz.ntmps56
      go_wp2_with fail
      go_ret
      exact ⟨by rw [HV.out] <;> rfl, rfl⟩
  · have HV := Lib.hid (dAt_ge h)
    have u1 : decide (((i : Nat) : Int) < ((s.length : Nat) : Int)) = false := decide_eq_false (by omega)
    have u2 : decide (i < s.length) = false := decide_eq_false (by omega)
    clear h hs hi
    unfold sv
    go_enter Tryz.func56, Tryz.ntmps56
    go_wp2_with fail
    go_ret
    exact ⟨by rw [HV.out] <;> rfl, rfl⟩

set_option maxRecDepth 100000 in
theorem rover_any (s : List UInt8) (i : Nat) (w : World) (hs : s.length ≤ 140737488353000) (hi : i ≤ s.length) :
    Calls Tryz.prog 28 #[sv s, .int .i64 (i : Int)] w fun e w' => e = .returned (.int .i64 (ov s i : Nat)) ∧ w = w' := by
  have HS := Lib.hid hs
  have HI := Lib.hid hi
  have HOV := Lib.hid (ov_ge s i)
  have HOL := Lib.hid (ov_le hi)
  clear hs hi
  go_enter Tryz.func28, Tryz.ntmps28
  go_wp2_with fail
  go_loop [1] (fun x => ∃ k : Nat, x = .int .i64 (k : Int) ∧ i ≤ k ∧ k ≤ ov s i) (fun x => s.length - (intOf x).toNat)
  case atStart => exact ⟨i, rfl, Nat.le_refl _, HOV.out⟩
  case round =>
    obtain ⟨k, rfl, hk1, hk2⟩ := hrel
    have HK1 := Lib.hid hk1
    have HK2 := Lib.hid hk2
    have HD := Lib.hid (fun W => rdigit_any s k W HS.out (by have := HOL.out; have := HS.out; omega))
    have hkI : ((k : Nat) : Int) ≤ 140737488353000 := by have := HOL.out; have := HS.out; omega
    cases hd : dAt s k with
    | true =>
      rw [hd] at HD
      have hk3 : k + 1 ≤ ov s i := by
        rcases Nat.lt_or_ge k (ov s i) with h | h
        · exact h
        · have : k = ov s i := by omega
          rw [this, ov_end] at hd
          cases hd
      have HK3 := Lib.hid hk3
      clear hk1 hk2 hk3 hd
      go_wp2_with fail
      refine (HD.out _).mono ?_
      rintro e w1 ⟨rfl, rfl⟩
      go_wp2_with fail
      go_round
      case rel => exact ⟨k + 1, by go_num, by have := HK1.out; omega, HK3.out⟩
      case measure => have := HK3.out; have := HOL.out; simp [intOf]; omega
    | false =>
      rw [hd] at HD
      have hke : k = ov s i := by
        have h1 := ov_ov hk1 hk2
        rw [ov_no hd] at h1
        exact h1
      have HKE := Lib.hid hke
      clear hk1 hk2 hd hke
      go_wp2_with fail
      refine (HD.out _).mono ?_
      rintro e w1 ⟨rfl, rfl⟩
      go_wp2_with fail
      go_ret
      exact ⟨by rw [← HKE.out] <;> rfl, rfl⟩

/-- How a byte's test stands. -/
theorem ctest (s : List UInt8) (i : Nat) (c : UInt8) : (s.length ≤ i ∧ (s[i]? == some c) = false) ∨ (i < s.length ∧ (((bt s i : Nat) : Int) == ((c.toNat : Nat) : Int)) = (s[i]? == some c)) := by
  rcases Nat.lt_or_ge i s.length with h | h
  · exact .inr ⟨h, bt_is h c⟩
  · left; rw [List.getElem?_eq_none h]; exact ⟨h, rfl⟩
def rwrongV (s : List UInt8) : Int := match wrongP s with
  | some q => (q : Nat)
  | none => -1

end Go.Proofs.YtjggmdlecdbeeaaGreatDoor

namespace Go.Proofs.YtjggmdlecdbeeaaGreatDoor
open Go.RowKit
set_option linter.unusedSimpArgs false
set_option linter.unusedVariables false

theorem noughtsL_cons (c : UInt8) (l : List UInt8) : noughtsL (c :: l) = if (some c == some 48) = true then noughtsL l else c :: l := by
  unfold noughtsL
  rw [List.dropWhile_cons]
  simp
theorem noughtsR_snoc (l : List UInt8) (c : UInt8) : noughtsR (l ++ [c]) = if (some c == some 48) = true then noughtsR l else l ++ [c] := by
  unfold noughtsR
  rw [List.reverse_append, List.reverse_singleton, List.singleton_append, List.dropWhile_cons]
  simp only [Option.some_beq_some, beq_iff_eq]
  split <;> simp

set_option maxRecDepth 100000 in
set_option maxHeartbeats 2000000 in
theorem rstrip_any (g : Bool) (l : List UInt8) (x : Int) (w : World) (hl : l.length ≤ 140737488353000) (hx : -1000000000000000 ≤ x ∧ x ≤ 1000000000000000) :
    Calls Tryz.prog 13 #[decV (g, l, x)] w fun e w' => e = .returned (decV (stripD (g, l, x))) ∧ Below w.heap.size w w' := by
  have HL := Lib.hid hl
  have HX := Lib.hid hx
  have HB0 := Lib.hid (((Below.refl _ w).alloc (Nat.le_refl _) (.cells #[.bool g, .string ⟨l.toArray⟩, .int .i64 x] 33)).alloc (by simp) (.cells #[.bool false, .string ⟨#[]⟩, .int .i64 0] 33))
  have HK0 := Lib.hid ((Blk.new w 33 #[.bool g, .string ⟨l.toArray⟩, .int .i64 x]).alloc (.cells #[.bool false, .string ⟨#[]⟩, .int .i64 0] 33))
  have HJ0 := Lib.hid (Blk.new2 w 33 #[.bool false, .string ⟨#[]⟩, .int .i64 0] (.cells #[.bool g, .string ⟨l.toArray⟩, .int .i64 x] 33))
  have HN := Lib.hid (noughtsL_le l)
  clear hl hx
  have HSD := Lib.hid (show stripD (g, l, x) = if noughtsR (noughtsL l) = [] then (false, [], 0) else (g, noughtsR (noughtsL l), x + (noughtsL l).length - (noughtsR (noughtsL l)).length) from rfl)
  generalize stripD (g, l, x) = sd at *
  obtain ⟨sd0, sd1, sd2⟩ := sd
  unfold decV sv
  go_enter Tryz.func13, Tryz.ntmps13
  go_upto_block 0 with fail
  go_cut [3] from 3 to 17 (fun s3 wx => Blk wx w.heap.size 33 #[.bool g, .string ⟨(noughtsL l).toArray⟩, .int .i64 x] ∧ Blk wx (w.heap.size + 1) 33 #[.bool false, .string ⟨#[]⟩, .int .i64 0] ∧ Below w.heap.size w wx)
  case first =>
    go_wp2_with fail
    go_loopg [3, 4, 5, 6, 7, 8, 9, 10, 11, 12, 13, 14, 15, 16] l.length (fun n s3 s4 s5 s6 s7 s8 s9 s10 s11 s12 s13 s14 s15 s16 wr => ∃ m : List UInt8, noughtsL m = noughtsL l ∧ m.length = n ∧ n ≤ l.length ∧ Blk wr w.heap.size 33 #[.bool g, .string ⟨m.toArray⟩, .int .i64 x] ∧ Blk wr (w.heap.size + 1) 33 #[.bool false, .string ⟨#[]⟩, .int .i64 0] ∧ Below w.heap.size w wr)
    case atStart => exact ⟨l, rfl, rfl, Nat.le_refl _, HK0.out, HJ0.out, HB0.out⟩
    case round =>
      obtain ⟨m, hm, rfl, hml, hk, hj, hb⟩ := hrel
      have HM := Lib.hid hm
      have HK := Lib.hid hk
      have HJ := Lib.hid hj
      have HB := Lib.hid hb
      have hmI : ((m.length : Nat) : Int) ≤ 140737488353000 := by have := HL.out; omega
      have HML := Lib.hid hml
      clear hm hml hb hj
      cases m with
      | nil =>
        obtain ⟨c0, c1, c2, f0, f1, f2⟩ := hk.three
        have HE := Lib.hid (show noughtsL l = [] from HM.out.symm)
        clear hk
        go_wp2_with fail
        go_meet
        exact ⟨by rw [HE.out]; exact HK.out, HJ.out, HB.out⟩
      | cons c r =>
        obtain ⟨c0, c1, c2, f0, f1, f2⟩ := hk.three
        have h0 : 0 < (c :: r).length := by simp
        have hb0 := bget (c :: r) 0 h0
        have ht : (((bt (c :: r) 0 : Nat) : Int) == 48) = (some c == some 48) := bt_is h0 48
        have hI : (0 : Int) < (((c :: r).length : Nat) : Int) := by omega
        have hI1 : (1 : Int) ≤ (((c :: r).length : Nat) : Int) := by omega
        have u1 : decide ((0 : Int) < (((c :: r).length : Nat) : Int)) = true := decide_eq_true hI
        have u2 : decide (0 < (c :: r).length) = true := decide_eq_true h0
        have hext : (⟨(c :: r).toArray⟩ : ByteArray).extract 1 (c :: r).length = ⟨r.toArray⟩ := by
          rw [ext_cut]; unfold cutL; rw [List.drop_one, List.tail_cons, List.take_of_length_le (by simp)]
        have hcons := noughtsL_cons c r
        have HLEN := Lib.hid (show (c :: r).length = r.length + 1 from rfl)
        clear hk
        generalize hmm : c :: r = m at *
        cases hc : (some c == some (48 : UInt8)) with
        | true =>
          rw [hc] at ht hcons
          have HR := Lib.hid (show noughtsL r = noughtsL l by rw [← HM.out, hcons]; rfl)
          clear hc hcons hmm
          go_wp2_with fail
          go_roundg r.length
          case rel => exact ⟨r, HR.out, rfl, by have := HML.out; have := HLEN.out; omega, HK.out.set1 1 _, HJ.out.far (p := ⟨w.heap.size, 1, none⟩) (by simp) _, HB.out.setCell (p := ⟨w.heap.size, 1, none⟩) (Nat.le_refl _) _⟩
          case measure => have := HLEN.out; omega
        | false =>
          rw [hc] at ht hcons
          have HE := Lib.hid (show noughtsL l = m by rw [← HM.out, hcons]; rfl)
          clear hc hcons hmm
          go_wp2_with fail
          go_meet
          exact ⟨by rw [HE.out]; exact HK.out, HJ.out, HB.out⟩
  case rest =>
  obtain ⟨hk, hj, hb⟩ := hcut
  have HK1 := Lib.hid hk
  have HJ1 := Lib.hid hj
  have HB1 := Lib.hid hb
  clear hk hj hb
  have HLL := Lib.hid (show (noughtsL l).length ≤ 140737488353000 by have := HN.out; have := HL.out; omega)
  generalize noughtsL l = L at *
  go_wp2_with fail
  go_loopg [17, 18, 19, 20, 21, 22, 23, 24, 25, 26, 27, 28, 29, 30, 31, 32, 33, 34, 35, 36, 37, 38, 39, 40, 41, 42] L.length (fun n s17 s18 s19 s20 s21 s22 s23 s24 s25 s26 s27 s28 s29 s30 s31 s32 s33 s34 s35 s36 s37 s38 s39 s40 s41 s42 wr => ∃ (m : List UInt8) (y : Int), noughtsR m = noughtsR L ∧ m.length = n ∧ n ≤ L.length ∧ y = x + L.length - m.length ∧ Blk wr w.heap.size 33 #[.bool g, .string ⟨m.toArray⟩, .int .i64 y] ∧ Blk wr (w.heap.size + 1) 33 #[.bool false, .string ⟨#[]⟩, .int .i64 0] ∧ Below w.heap.size w wr)
  case atStart => exact ⟨L, x, rfl, rfl, Nat.le_refl _, by omega, HK1.out, HJ1.out, HB1.out⟩
  case round =>
    obtain ⟨m, y, hm, rfl, hml, hy, hk, hj, hb⟩ := hrel
    have HM := Lib.hid hm
    have HK := Lib.hid hk
    have HJ := Lib.hid hj
    have HB := Lib.hid hb
    have HML := Lib.hid hml
    have HY := Lib.hid hy
    have hmI : ((m.length : Nat) : Int) ≤ 140737488353000 := by have := HLL.out; omega
    have hy1 : -1000000000000000 ≤ y := by have := HX.out; omega
    have hy2 : y ≤ 1200000000000000 := by have := HX.out; have := HLL.out; omega
    clear hm hml hy hb
    obtain ⟨c0, c1, c2, f0, f1, f2⟩ := hk.three
    obtain ⟨a0, a1, a2, b0, b1, b2⟩ := hj.three
    clear hk hj
    rcases List.eq_nil_or_concat m with hmn | ⟨r, c, hmc⟩
    · subst hmn
      have HE := Lib.hid (show (sd0, sd1, sd2) = (false, [], 0) by rw [HSD.out, ← HM.out]; rfl)
      go_wp2_with fail
      obtain ⟨e0, e1, e2⟩ := HJ.out.put3 (.bool false) (.string ⟨#[]⟩) (.int .i64 0)
      exact bodyPost_ret (v := .agg #[.bool false, .string ⟨#[]⟩, .int .i64 0]) (by simp [results, Tryz.results13, go_sem, e0, e1, e2]) rfl ⟨(congrArg (fun d : Dm => Ending.returned (decV d)) HE.out).symm, below_put3 HB.out (by omega) _ _ _⟩
    · rw [List.concat_eq_append] at hmc
      have hlen : m.length = r.length + 1 := by rw [hmc, List.length_append]; rfl
      have hr : r.length < m.length := by omega
      have hb0 := bget m r.length hr
      have hget : m[r.length]? = some c := by rw [hmc]; simp
      have ht : (((bt m r.length : Nat) : Int) == 48) = (some c == some 48) := by rw [← hget]; exact bt_is hr 48
      have hk1 : ((m.length : Nat) : Int) - 1 = ((r.length : Nat) : Int) := by omega
      have hI : (0 : Int) < ((m.length : Nat) : Int) := by omega
      have hrI : ((r.length : Nat) : Int) < ((m.length : Nat) : Int) := by omega
      have hrI2 : ((r.length : Nat) : Int) ≤ ((m.length : Nat) : Int) := by omega
      have u1 : decide ((0 : Int) < ((m.length : Nat) : Int)) = true := decide_eq_true hI
      have u2 : decide (0 < m.length) = true := decide_eq_true (by omega)
      have u3 : (((m.length : Nat) : Int) == 0) = false := by rw [beq_eq_false_iff_ne]; omega
      have u4 : (m.length == 0) = false := by rw [beq_eq_false_iff_ne]; omega
      have hext : (⟨m.toArray⟩ : ByteArray).extract 0 r.length = ⟨r.toArray⟩ := by
        rw [ext_cut]; unfold cutL; rw [hmc]; simp
      have hcons : noughtsR m = if (some c == some 48) = true then noughtsR r else m := by
        rw [hmc]; exact noughtsR_snoc r c
      have hmne : m ≠ [] := by rw [hmc]; simp
      have HNE := Lib.hid hmne
      have HLEN := Lib.hid hlen
      clear hmc hget hlen hmne
      cases hc : (some c == some (48 : UInt8)) with
      | true =>
        rw [hc] at ht hcons
        have HR := Lib.hid (show noughtsR r = noughtsR L by rw [← HM.out, hcons]; rfl)
        clear hc hcons a0 a1 a2 b0 b1 b2
        go_wp2_with fail
        go_roundg r.length
        case rel => exact ⟨r, y + 1, HR.out, rfl, by have := HML.out; have := HLEN.out; omega, by have := HY.out; have := HLEN.out; omega, (HK.out.set1 1 _).set1 2 _, (HJ.out.far (p := ⟨w.heap.size, 1, none⟩) (by simp) _).far (p := ⟨w.heap.size, 2, none⟩) (by simp) _, (HB.out.setCell (p := ⟨w.heap.size, 1, none⟩) (Nat.le_refl _) _).setCell (p := ⟨w.heap.size, 2, none⟩) (Nat.le_refl _) _⟩
        case measure => have := HLEN.out; omega
      | false =>
        rw [hc] at ht hcons
        have HE := Lib.hid (show (sd0, sd1, sd2) = (g, m, y) by
          have e : noughtsR L = m := by rw [← HM.out, hcons]; rfl
          rw [HSD.out, e, if_neg HNE.out, ← HY.out])
        clear hc hcons
        go_wp2_with fail
        obtain ⟨e0, e1, e2⟩ := HJ.out.put3 (.bool g) (.string ⟨m.toArray⟩) (.int .i64 y)
        exact bodyPost_ret (v := .agg #[.bool g, .string ⟨m.toArray⟩, .int .i64 y]) (by simp [results, Tryz.results13, go_sem, e0, e1, e2]) rfl ⟨(congrArg (fun d : Dm => Ending.returned (decV d)) HE.out).symm, below_put3 HB.out (by omega) _ _ _⟩
end Go.Proofs.YtjggmdlecdbeeaaGreatDoor

namespace Go.Proofs.YtjggmdlecdbeeaaGreatDoor
open Go.RowKit
set_option linter.unusedSimpArgs false
set_option linter.unusedVariables false
attribute [local go_sem] SGives_value SGives_skip SGives_enter

theorem rnear_any (x : Int) (w : World) :
    Calls Tryz.prog 29 #[.int .i64 x] w fun e w' => e = .returned (.bool (nearP x)) ∧ w = w' := by
  by_cases h1 : -1099511627776 ≤ x
  · by_cases h2 : x ≤ 1099511627776
    · have h : nearP x = true := decide_eq_true ⟨h1, h2⟩
      rw [h]
      have t1 : decide (-1099511627776 ≤ x) = true := decide_eq_true h1
      have t2 : decide (x ≤ 1099511627776) = true := decide_eq_true h2
      clear h1 h2 h
      go_enter Tryz.func29, Tryz.ntmps29
      go_wp2
      go_ret
      exact ⟨rfl, rfl⟩
    · have h : nearP x = false := decide_eq_false (fun h => h2 h.2)
      rw [h]
      have t1 : decide (-1099511627776 ≤ x) = true := decide_eq_true h1
      have t2 : decide (x ≤ 1099511627776) = false := decide_eq_false h2
      clear h1 h2 h
      go_enter Tryz.func29, Tryz.ntmps29
      go_wp2
      go_ret
      exact ⟨rfl, rfl⟩
  · have h : nearP x = false := decide_eq_false (fun h => h1 h.1)
    rw [h]
    have t1 : decide (-1099511627776 ≤ x) = false := decide_eq_false h1
    clear h1 h
    go_enter Tryz.func29, Tryz.ntmps29
    go_wp2
    go_ret
    exact ⟨rfl, rfl⟩
/-- A literal without its minus. -/
def bodyL (s : List UInt8) : List UInt8 := if negP s then s.tail else s
structure Body (s r : List UInt8) : Prop where
  ok : wrongP r = none
  p0 : p0 r = 0
  d0 : dAt r 0 = true
  le : r.length ≤ s.length
  neg : negP s = true → s = 45 :: r
  pos : negP s = false → s = r
  bare : bareP s = stripD (negP s, wholeP r ++ behindP r, (if underP r then -(capE (expP r) : Int) else (capE (expP r) : Int)) - (behindP r).length)
  i1 : ov r 0 = p1 r
theorem valid_d0 {r : List UInt8} (h : wrongP r = none) : dAt r (p0 r) = true := by
  unfold wrongP at h
  cases hd : dAt r (p0 r) with
  | true => rfl
  | false => rw [if_pos hd] at h; cases h
theorem valid_pt {r : List UInt8} (h : wrongP r = none) (hp : pt r = true) : dAt r (p1 r + 1) = true := by
  have h0 := valid_d0 h
  unfold wrongP at h
  rw [if_neg (by rw [h0]; simp)] at h
  cases hd : dAt r (p1 r + 1) with
  | true => rfl
  | false => rw [if_pos ⟨hp, hd⟩] at h; cases h
theorem valid_e {r : List UInt8} (h : wrongP r = none) : (hasE r = true → dAt r (p3 r) = true) ∧ r.length ≤ p4 r := by
  have h0 := valid_d0 h
  have h1 := valid_pt h
  unfold wrongP at h
  rw [if_neg (by rw [h0]; simp), if_neg (fun k => by rw [h1 k.1] at k; exact absurd k.2 (by simp))] at h
  split at h
  · cases h
  · rename_i hn
    refine ⟨fun he => ?_, ?_⟩
    · cases hd : dAt r (p3 r) with
      | true => rfl
      | false => exact absurd ⟨he, hd⟩ hn
    · split at h
      · cases h
      · omega
theorem valid_nought {r : List UInt8} (h : wrongP r = none) (hp : p0 r = 0) : ov r 0 = p1 r := by
  unfold p1
  rw [hp]
  split
  · rename_i h48
    have h0 : dAt r 0 = true := by have := valid_d0 h; rwa [hp] at this
    rw [ov_yes h0]
    rw [ov_no]
    cases hd : dAt r (0 + 1) with
    | false => rfl
    | true =>
      exfalso
      have hp1 : p1 r = 1 := by unfold p1; rw [hp, if_pos h48]
      have hl := dAt_lt hd
      have hg := dAt_get hl
      rw [hd] at hg
      have hne : ∀ c : UInt8, isD c = false → (r[1]? == some c) = false := by
        intro c hc
        rw [List.getElem?_eq_getElem hl]
        rw [beq_eq_false_iff_ne]
        intro hh
        injection hh with hh
        rw [hh, hc] at hg
        cases hg
      have hpt : pt r = false := by unfold pt; rw [hp1]; exact hne 46 (by decide)
      have hp2 : p2 r = 1 := by unfold p2; rw [hpt]; exact hp1
      have he : hasE r = false := by unfold hasE; rw [hp2, hne 101 (by decide), hne 69 (by decide)]; rfl
      have hp4 : p4 r = 1 := by unfold p4; rw [he]; exact hp2
      have := (valid_e h).2
      omega
  · rfl
theorem bodyL_ok {s : List UInt8} (h : wrongP s = none) : Body s (bodyL s) := by
  unfold bodyL
  cases hn : negP s with
  | true =>
    cases s with
    | nil => cases hn
    | cons c r =>
      have hc : c = 45 := by
        unfold negP at hn
        simpa using hn
      subst hc
      simp only [if_true, List.tail_cons]
      have hr : r[0]? ≠ some 45 := by
        intro hr
        have hd := valid_d0 h
        have hp : p0 (45 :: r) = 1 := by unfold p0; rw [if_pos (by rfl)]
        rw [hp, dAt_s 0] at hd
        unfold dAt at hd
        rw [hr] at hd
        cases hd
      have hok : wrongP r = none := by
        rw [wrongP_s hr] at h
        cases hh : wrongP r with
        | none => rfl
        | some q => rw [hh] at h; cases h
      have hp0 : p0 r = 0 := by unfold p0; rw [if_neg hr]
      refine ⟨hok, hp0, by have := valid_d0 hok; rwa [hp0] at this, by simp, (fun _ => rfl), (fun k => by rw [hn] at k; cases k), ?_, valid_nought hok hp0⟩
      show stripD (negP (45 :: r), wholeP (45 :: r) ++ behindP (45 :: r), _) = _
      rw [wholeP_s hr, behindP_s hr, underP_s hr, expP_s hr]
  | false =>
    simp only [Bool.false_eq_true, if_false]
    have hp0 : p0 s = 0 := by unfold negP at hn; unfold p0; rw [if_neg (by simpa using hn)]
    exact ⟨h, hp0, by have := valid_d0 h; rwa [hp0] at this, Nat.le_refl _, (fun k => by rw [hn] at k; cases k), (fun _ => rfl), rfl, valid_nought h hp0⟩
end Go.Proofs.YtjggmdlecdbeeaaGreatDoor
