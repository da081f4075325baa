/- The reference of decimals: the walks of Strip, Near, Sign. -/
import Derived.Test.YtjggmdlecdbeeaaDoorRefA
import Derived.Deep.LoopGhost
import Derived.Deep.CutBlock
namespace Go.Proofs.YtjggmdlecdbeeaaDoor
open Go.RowKit
set_option linter.unusedSimpArgs false
set_option linter.unusedVariables false

theorem noughtsL_cons (c : UInt8) (l : List UInt8) : noughtsL (c :: l) = if (some c == some 48) = true then noughtsL l else c :: l := by
  unfold noughtsL
  rw [List.dropWhile_cons]
  simp
theorem noughtsR_snoc (l : List UInt8) (c : UInt8) : noughtsR (l ++ [c]) = if (some c == some 48) = true then noughtsR l else l ++ [c] := by
  unfold noughtsR
  rw [List.reverse_append, List.reverse_singleton, List.singleton_append, List.dropWhile_cons]
  simp only [Option.some_beq_some, beq_iff_eq]
  split <;> simp

set_option maxRecDepth 100000 in
set_option maxHeartbeats 2000000 in
theorem rstrip_any (g : Bool) (l : List UInt8) (x : Int) (w : World) (hl : l.length ≤ 140737488351300) (hx : -1000000000000000 ≤ x ∧ x ≤ 1000000000000000) :
    Calls Tryd.prog 43 #[decV (g, l, x)] w fun e w' => e = .returned (decV (stripD (g, l, x))) ∧ Below w.heap.size w w' := by
  have HL := Lib.hid hl
  have HX := Lib.hid hx
  have HB0 := Lib.hid (((Below.refl _ w).alloc (Nat.le_refl _) (.cells #[.bool g, .string ⟨l.toArray⟩, .int .i64 x] 36)).alloc (by simp) (.cells #[.bool false, .string ⟨#[]⟩, .int .i64 0] 36))
  have HK0 := Lib.hid ((Blk.new w 36 #[.bool g, .string ⟨l.toArray⟩, .int .i64 x]).alloc (.cells #[.bool false, .string ⟨#[]⟩, .int .i64 0] 36))
  have HJ0 := Lib.hid (Blk.new2 w 36 #[.bool false, .string ⟨#[]⟩, .int .i64 0] (.cells #[.bool g, .string ⟨l.toArray⟩, .int .i64 x] 36))
  have HN := Lib.hid (noughtsL_le l)
  clear hl hx
  have HSD := Lib.hid (show stripD (g, l, x) = if noughtsR (noughtsL l) = [] then (false, [], 0) else (g, noughtsR (noughtsL l), x + (noughtsL l).length - (noughtsR (noughtsL l)).length) from rfl)
  generalize stripD (g, l, x) = sd at *
  obtain ⟨sd0, sd1, sd2⟩ := sd
  unfold decV sv
  go_enter Tryd.func43, Tryd.ntmps43
  go_upto_block 0 with fail
  go_cut [3] from 3 to 17 (fun s3 wx => Blk wx w.heap.size 36 #[.bool g, .string ⟨(noughtsL l).toArray⟩, .int .i64 x] ∧ Blk wx (w.heap.size + 1) 36 #[.bool false, .string ⟨#[]⟩, .int .i64 0] ∧ Below w.heap.size w wx)
  case first =>
    go_wp2_with fail
    go_loopg [3, 4, 5, 6, 7, 8, 9, 10, 11, 12, 13, 14, 15, 16] l.length (fun n s3 s4 s5 s6 s7 s8 s9 s10 s11 s12 s13 s14 s15 s16 wr => ∃ m : List UInt8, noughtsL m = noughtsL l ∧ m.length = n ∧ n ≤ l.length ∧ Blk wr w.heap.size 36 #[.bool g, .string ⟨m.toArray⟩, .int .i64 x] ∧ Blk wr (w.heap.size + 1) 36 #[.bool false, .string ⟨#[]⟩, .int .i64 0] ∧ Below w.heap.size w wr)
    case atStart => exact ⟨l, rfl, rfl, Nat.le_refl _, HK0.out, HJ0.out, HB0.out⟩
    case round =>
      obtain ⟨m, hm, rfl, hml, hk, hj, hb⟩ := hrel
      have HM := Lib.hid hm
      have HK := Lib.hid hk
      have HJ := Lib.hid hj
      have HB := Lib.hid hb
      have hmI : ((m.length : Nat) : Int) ≤ 140737488351300 := by have := HL.out; omega
      have HML := Lib.hid hml
      clear hm hml hb hj
      cases m with
      | nil =>
        obtain ⟨c0, c1, c2, f0, f1, f2⟩ := hk.three
        have HE := Lib.hid (show noughtsL l = [] from HM.out.symm)
        clear hk
        go_wp2_with fail
        go_meet
        exact ⟨by rw [HE.out]; exact HK.out, HJ.out, HB.out⟩
      | cons c r =>
        obtain ⟨c0, c1, c2, f0, f1, f2⟩ := hk.three
        have h0 : 0 < (c :: r).length := by simp
        have hb0 := bget (c :: r) 0 h0
        have ht : (((bt (c :: r) 0 : Nat) : Int) == 48) = (some c == some 48) := bt_is h0 48
        have hI : (0 : Int) < (((c :: r).length : Nat) : Int) := by omega
        have hI1 : (1 : Int) ≤ (((c :: r).length : Nat) : Int) := by omega
        have u1 : decide ((0 : Int) < (((c :: r).length : Nat) : Int)) = true := decide_eq_true hI
        have u2 : decide (0 < (c :: r).length) = true := decide_eq_true h0
        have hext : (⟨(c :: r).toArray⟩ : ByteArray).extract 1 (c :: r).length = ⟨r.toArray⟩ := by
          rw [ext_cut]; unfold cutL; rw [List.drop_one, List.tail_cons, List.take_of_length_le (by simp)]
        have hcons := noughtsL_cons c r
        have HLEN := Lib.hid (show (c :: r).length = r.length + 1 from rfl)
        clear hk
        generalize hmm : c :: r = m at *
        cases hc : (some c == some (48 : UInt8)) with
        | true =>
          rw [hc] at ht hcons
          have HR := Lib.hid (show noughtsL r = noughtsL l by rw [← HM.out, hcons]; rfl)
          clear hc hcons hmm
          go_wp2_with fail
          go_roundg r.length
          case rel => exact ⟨r, HR.out, rfl, by have := HML.out; have := HLEN.out; omega, HK.out.set1 1 _, HJ.out.far (p := ⟨w.heap.size, 1, none⟩) (by simp) _, HB.out.setCell (p := ⟨w.heap.size, 1, none⟩) (Nat.le_refl _) _⟩
          case measure => have := HLEN.out; omega
        | false =>
          rw [hc] at ht hcons
          have HE := Lib.hid (show noughtsL l = m by rw [← HM.out, hcons]; rfl)
          clear hc hcons hmm
          go_wp2_with fail
          go_meet
          exact ⟨by rw [HE.out]; exact HK.out, HJ.out, HB.out⟩
  case rest =>
  obtain ⟨hk, hj, hb⟩ := hcut
  have HK1 := Lib.hid hk
  have HJ1 := Lib.hid hj
  have HB1 := Lib.hid hb
  clear hk hj hb
  have HLL := Lib.hid (show (noughtsL l).length ≤ 140737488351300 by have := HN.out; have := HL.out; omega)
  generalize noughtsL l = L at *
  go_wp2_with fail
  go_loopg [17, 18, 19, 20, 21, 22, 23, 24, 25, 26, 27, 28, 29, 30, 31, 32, 33, 34, 35, 36, 37, 38, 39, 40, 41, 42] L.length (fun n s17 s18 s19 s20 s21 s22 s23 s24 s25 s26 s27 s28 s29 s30 s31 s32 s33 s34 s35 s36 s37 s38 s39 s40 s41 s42 wr => ∃ (m : List UInt8) (y : Int), noughtsR m = noughtsR L ∧ m.length = n ∧ n ≤ L.length ∧ y = x + L.length - m.length ∧ Blk wr w.heap.size 36 #[.bool g, .string ⟨m.toArray⟩, .int .i64 y] ∧ Blk wr (w.heap.size + 1) 36 #[.bool false, .string ⟨#[]⟩, .int .i64 0] ∧ Below w.heap.size w wr)
  case atStart => exact ⟨L, x, rfl, rfl, Nat.le_refl _, by omega, HK1.out, HJ1.out, HB1.out⟩
  case round =>
    obtain ⟨m, y, hm, rfl, hml, hy, hk, hj, hb⟩ := hrel
    have HM := Lib.hid hm
    have HK := Lib.hid hk
    have HJ := Lib.hid hj
    have HB := Lib.hid hb
    have HML := Lib.hid hml
    have HY := Lib.hid hy
    have hmI : ((m.length : Nat) : Int) ≤ 140737488351300 := by have := HLL.out; omega
    have hy1 : -1000000000000000 ≤ y := by have := HX.out; omega
    have hy2 : y ≤ 1200000000000000 := by have := HX.out; have := HLL.out; omega
    clear hm hml hy hb
    obtain ⟨c0, c1, c2, f0, f1, f2⟩ := hk.three
    obtain ⟨a0, a1, a2, b0, b1, b2⟩ := hj.three
    clear hk hj
    rcases List.eq_nil_or_concat m with hmn | ⟨r, c, hmc⟩
    · subst hmn
      have HE := Lib.hid (show (sd0, sd1, sd2) = (false, [], 0) by rw [HSD.out, ← HM.out]; rfl)
      go_wp2_with fail
      obtain ⟨e0, e1, e2⟩ := HJ.out.put3 (.bool false) (.string ⟨#[]⟩) (.int .i64 0)
      exact bodyPost_ret (v := .agg #[.bool false, .string ⟨#[]⟩, .int .i64 0]) (by simp [results, Tryd.results43, go_sem, e0, e1, e2]) rfl ⟨(congrArg (fun d : Dm => Ending.returned (decV d)) HE.out).symm, below_put3 HB.out (by omega) _ _ _⟩
    · rw [List.concat_eq_append] at hmc
      have hlen : m.length = r.length + 1 := by rw [hmc, List.length_append]; rfl
      have hr : r.length < m.length := by omega
      have hb0 := bget m r.length hr
      have hget : m[r.length]? = some c := by rw [hmc]; simp
      have ht : (((bt m r.length : Nat) : Int) == 48) = (some c == some 48) := by rw [← hget]; exact bt_is hr 48
      have hk1 : ((m.length : Nat) : Int) - 1 = ((r.length : Nat) : Int) := by omega
      have hI : (0 : Int) < ((m.length : Nat) : Int) := by omega
      have hrI : ((r.length : Nat) : Int) < ((m.length : Nat) : Int) := by omega
      have hrI2 : ((r.length : Nat) : Int) ≤ ((m.length : Nat) : Int) := by omega
      have u1 : decide ((0 : Int) < ((m.length : Nat) : Int)) = true := decide_eq_true hI
      have u2 : decide (0 < m.length) = true := decide_eq_true (by omega)
      have u3 : (((m.length : Nat) : Int) == 0) = false := by rw [beq_eq_false_iff_ne]; omega
      have u4 : (m.length == 0) = false := by rw [beq_eq_false_iff_ne]; omega
      have hext : (⟨m.toArray⟩ : ByteArray).extract 0 r.length = ⟨r.toArray⟩ := by
        rw [ext_cut]; unfold cutL; rw [hmc]; simp
      have hcons : noughtsR m = if (some c == some 48) = true then noughtsR r else m := by
        rw [hmc]; exact noughtsR_snoc r c
      have hmne : m ≠ [] := by rw [hmc]; simp
      have HNE := Lib.hid hmne
      have HLEN := Lib.hid hlen
      clear hmc hget hlen hmne
      cases hc : (some c == some (48 : UInt8)) with
      | true =>
        rw [hc] at ht hcons
        have HR := Lib.hid (show noughtsR r = noughtsR L by rw [← HM.out, hcons]; rfl)
        clear hc hcons a0 a1 a2 b0 b1 b2
        go_wp2_with fail
        go_roundg r.length
        case rel => exact ⟨r, y + 1, HR.out, rfl, by have := HML.out; have := HLEN.out; omega, by have := HY.out; have := HLEN.out; omega, (HK.out.set1 1 _).set1 2 _, (HJ.out.far (p := ⟨w.heap.size, 1, none⟩) (by simp) _).far (p := ⟨w.heap.size, 2, none⟩) (by simp) _, (HB.out.setCell (p := ⟨w.heap.size, 1, none⟩) (Nat.le_refl _) _).setCell (p := ⟨w.heap.size, 2, none⟩) (Nat.le_refl _) _⟩
        case measure => have := HLEN.out; omega
      | false =>
        rw [hc] at ht hcons
        have HE := Lib.hid (show (sd0, sd1, sd2) = (g, m, y) by
          have e : noughtsR L = m := by rw [← HM.out, hcons]; rfl
          rw [HSD.out, e, if_neg HNE.out, ← HY.out])
        clear hc hcons
        go_wp2_with fail
        obtain ⟨e0, e1, e2⟩ := HJ.out.put3 (.bool g) (.string ⟨m.toArray⟩) (.int .i64 y)
        exact bodyPost_ret (v := .agg #[.bool g, .string ⟨m.toArray⟩, .int .i64 y]) (by simp [results, Tryd.results43, go_sem, e0, e1, e2]) rfl ⟨(congrArg (fun d : Dm => Ending.returned (decV d)) HE.out).symm, below_put3 HB.out (by omega) _ _ _⟩
end Go.Proofs.YtjggmdlecdbeeaaDoor
