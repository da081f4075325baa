/- The law of natural numbers, step by step: the walk. -/
import Derived.Test.YtgihkmofpncobaaDoorNRZ
import Derived.Test.YtgihkmofpncobaaDoorNSO
namespace Go.Proofs.YtgihkmofpncobaaDoor.wideNats
open Go.RowKit
set_option linter.unusedSimpArgs false
set_option linter.unusedVariables false

attribute [local go_sem] SGives_value SGives_skip SGives_enter CGives_value CGives_skip CGives_enter MGives_value MGives_skip MGives_enter
abbrev opV (o : OpD) : Value := .agg #[.int .i64 o.kind, .int .i64 o.a, .int .i64 o.b, .int .u64 (o.n : Int), .int .i64 o.k, .string ⟨o.s.toArray⟩]
theorem wrongAt_le : ∀ {s : List UInt8} {i : Nat}, wrongAt s = some i → i ≤ s.length
  | [], i, h => by simp [wrongAt] at h
  | c :: s, i, h => by
    unfold wrongAt at h
    split at h
    · rw [Option.map_eq_some_iff] at h
      obtain ⟨j, hj, rfl⟩ := h
      have := wrongAt_le hj
      simp only [List.length_cons]; omega
    · injection h with h; omega
theorem wrong_le {s : List UInt8} {i : Nat} (h : wrongV s = some i) : i ≤ s.length := by
  unfold wrongV at h
  split at h
  · injection h with h; omega
  · exact wrongAt_le h
theorem opok_n {o : OpD} (h : OpOk o) : o.n < W64 := by
  obtain ⟨_, _, _, h, _⟩ := h
  have h2 := bounds_u64 h
  unfold W64
  omega
theorem step_made (base hi rb : Nat) (xs : List Nat) (o : OpD) (w : World) (hrow : Row base hi w rb xs) (ho : OpOk o) (hk : 0 ≤ o.kind ∧ o.kind ≤ 2) (hlen : (xs.length + 2) * 24 ≤ 140737488355328) :
    Calls Tryd.prog 5 #[.pointer (some ⟨rb, 0, none⟩), opV o] w (StepP base rb xs w) := by
  have hn := opok_n ho
  have hs : o.s.length ≤ 1000000000000000 := by have := ho.2.2.2.2.2; omega
  obtain ⟨M, hM⟩ : ∃ M, M = 8192 := ⟨_, rfl⟩
  obtain ⟨kd, a, b, n, k, s⟩ := o
  simp only at *
  rcases (show kd = 0 ∨ kd = 1 ∨ kd = 2 by omega) with rfl | rfl | rfl
  · exact made0 base hi rb xs a b k n M 0 s w hrow hn hs hM (by omega)
  · rcases Int.lt_or_le k 0 with h | h
    · exact made1n base hi rb xs a b k n M 0 s w hrow hn hs hM (by omega) h
    · exact made1p base hi rb xs a b k n M 0 s w hrow hn hs hM (by omega) h
  · cases hw : wrongV s with
    | some i => exact made2n base hi rb xs a b k n M 0 s w hrow hn hs hM (by omega) i hw (Nat.le_trans (wrong_le hw) hs)
    | none => exact made2p base hi rb xs a b k n M 0 s w hrow hn hs hM (by omega) hw
theorem step_reckoned (base hi rb : Nat) (xs : List Nat) (o : OpD) (w : World) (hrow : Row base hi w rb xs) (hpos : 0 < xs.length) (ho : OpOk o) (hk : 3 ≤ o.kind ∧ o.kind ≤ 9) (hlen : (xs.length + 2) * 24 ≤ 140737488355328) :
    Calls Tryd.prog 6 #[.pointer (some ⟨rb, 0, none⟩), opV o] w (StepP base rb xs w) := by
  have hn := opok_n ho
  obtain ⟨M, hM⟩ : ∃ M, M = 8192 := ⟨_, rfl⟩
  obtain ⟨Y, hY⟩ : ∃ Y, Y = 10000 := ⟨_, rfl⟩
  obtain ⟨Z, hZ⟩ : ∃ Z, Z = 1000000 := ⟨_, rfl⟩
  obtain ⟨m, hm⟩ : ∃ m, m = 4096 := ⟨_, rfl⟩
  exact reckoned_core base hi rb xs o.kind o.a o.b o.k o.n M Y Z m o.s w (by omega) hrow hpos ho.2.1 ho.2.2.1 ho.2.2.2.2.1 hn hM hm hY hZ hlen
theorem step_asked (base hi rb : Nat) (xs : List Nat) (o : OpD) (w : World) (hrow : Row base hi w rb xs) (hpos : 0 < xs.length) (ho : OpOk o) (hlen : (xs.length + 2) * 24 ≤ 140737488355328) :
    Calls Tryd.prog 7 #[.pointer (some ⟨rb, 0, none⟩), opV o] w (StepP base rb xs w) := by
  have hn := opok_n ho
  obtain ⟨M, hM⟩ : ∃ M, M = 8192 := ⟨_, rfl⟩
  obtain ⟨Y, hY⟩ : ∃ Y, Y = 10000 := ⟨_, rfl⟩
  obtain ⟨Z, hZ⟩ : ∃ Z, Z = 1000000 := ⟨_, rfl⟩
  obtain ⟨m, hm⟩ : ∃ m, m = 4096 := ⟨_, rfl⟩
  exact asked_core base hi rb xs o.kind o.a o.b o.k o.n M Y Z m o.s w (by omega) hrow hpos ho.2.1 ho.2.2.1 ho.2.2.2.2.1 hn hM hm hY hZ hlen
theorem natl_nil (w : World) : NatL w none 0 0 0 := ⟨[], IsF.nil _, rfl, RT.nil _ _, Nat.le_refl _⟩
theorem ratl_nil (w : World) : RatL w none 0 0 0 := ⟨[], IsF.nil _, rfl, RT.nil _ _, Nat.le_refl _⟩
theorem row_start (base : Nat) (w : World) (h : base ≤ w.heap.size) (W : World) (hW : (((w.alloc (.cells #[.slice none 0 0] 26)).alloc (.cells #[.slice none 0 0] 26)).alloc (.cells #[.slice none 0 0] 31)).alloc (.cells #[.slice (some ⟨w.heap.size + 1, 0, none⟩) 1 1, .slice (some ⟨w.heap.size + 1 + 1, 0, none⟩) 1 1] 34) = W) :
    Row base W.heap.size W (w.heap.size + 1 + 1 + 1) [0] ∧ Below w.heap.size w W := by
  have nx : ∀ (V : World) (k : Nat) (t : TypeId) (cs : Array Value), V.heap.size = k → Blk (V.alloc (.cells cs t)) k t cs := fun V k t cs h => by rw [← h]; exact Blk.new V t cs
  subst hW
  refine ⟨⟨w.heap.size + 1, 1, w.heap.size + 1 + 1, 1, [.slice none 0 0], [.slice none 0 0], ?_⟩, by go_grown⟩
  refine ⟨nx _ _ _ _ (by simp), ⟨rfl, .inr ⟨_, 1, _, rfl, by omega, ((nx _ _ _ _ (by simp)).alloc _).alloc _, Nat.le_refl _, by unfold maxLen; omega, rfl, rfl⟩⟩, ⟨rfl, .inr ⟨_, 1, _, rfl, by omega, (nx _ _ _ _ (by simp)).alloc _, Nat.le_refl _, by unfold maxLen; omega, rfl, rfl⟩⟩, fun i hi => ?_, fun i hi => ?_, fun x hx => ?_, by omega, by first | (simp; done) | (simp; omega), by first | (simp; done) | (simp; omega), by first | (simp; done) | (simp; omega), Nat.le_refl _⟩
  · obtain rfl : i = 0 := by simpa using hi
    exact ⟨none, 0, 0, rfl, natl_nil _⟩
  · obtain rfl : i = 0 := by simpa using hi
    exact ⟨none, 0, 0, rfl, ratl_nil _⟩
  · rw [List.mem_singleton.1 hx]; decide
set_option maxRecDepth 4000000 in
set_option maxHeartbeats 16000000 in
theorem walk (a0 : Option Addr) (len0 cap0 : Nat) (O : Nat → OpD) (w : World) (w0 : PQ w w.heap.size a0 len0 O) (s0 : len0 ≤ 2513169434843) :
    Calls Tryd.prog 3 #[.slice a0 len0 cap0] w fun e w' => e = .returned (.bool true) ∧ Below w.heap.size w w' := by
  have HP := Lib.hid w0
  have HS0 := Lib.hid s0
  have hl0 : (len0 : Int) ≤ 2513169434843 := by omega
  have HWK := Lib.hid (fun W => wakes_yes W)
  clear w0 s0
  go_enter Tryd.func3, Tryd.ntmps3
  go_wp2_with fail
  refine (HWK.out _).mono ?_
  rintro e w1 ⟨rfl, hb1⟩
  have HB1 := Lib.hid hb1
  clear hb1
  go_wp2_with fail
  obtain ⟨W1, hW1⟩ : ∃ W1, (((w1.alloc (.cells #[.slice none 0 0] 26)).alloc (.cells #[.slice none 0 0] 26)).alloc (.cells #[.slice none 0 0] 31)).alloc (.cells #[.slice (some ⟨w1.heap.size + 1, 0, none⟩) 1 1, .slice (some ⟨w1.heap.size + 1 + 1, 0, none⟩) 1 1] 34) = W1 := ⟨_, rfl⟩
  obtain ⟨hr, hb⟩ := row_start w.heap.size w1 HB1.out.size W1 hW1
  have HR1 := Lib.hid hr
  have HBW := Lib.hid (keepb HB1.out hb)
  rw [hW1]
  obtain ⟨rb, hrb⟩ : ∃ rb, w1.heap.size + 1 + 1 + 1 = rb := ⟨_, rfl⟩
  rw [hrb] at HR1 ⊢
  clear hW1 hr hb hrb
  go_loopw [18] (fun s18 wr => ∃ (j h2 : Nat) (ys : List Nat), s18 = .int .i64 (j : Nat) ∧ j ≤ len0 ∧ 0 < ys.length ∧ ys.length ≤ 1 + 2 * j ∧ Row w.heap.size h2 wr rb ys ∧ Below w.heap.size w wr) (fun s18 _ => len0 - (intOf s18).toNat)
  case atStart => exact ⟨0, _, [0], rfl, Nat.zero_le _, by simp, by simp, HR1.out, HBW.out⟩
  case round =>
    obtain ⟨j, h2, ys, rfl, hj, hpos, hlen, hrow, hbe⟩ := hrel
    obtain ⟨wo, rfl⟩ : ∃ wo : World, wo = wr := ⟨_, rfl⟩
    have HPOS := Lib.hid hpos
    have HLEN := Lib.hid hlen
    have HROW := Lib.hid hrow
    have HBE := Lib.hid hbe
    have HJ := Lib.hid hj
    clear hpos hlen hrow hbe
    by_cases hlt : j < len0
    · have t1 : decide ((j : Int) < (len0 : Int)) = true := decide_eq_true (by omega)
      have t1' : decide (j < len0) = true := decide_eq_true hlt
      have hq : (j : Int) < (len0 : Int) := by omega
      obtain ⟨hok, hcs⟩ := HP.out.keep HBE.out
      have hokj := hok j hlt
      obtain ⟨g, o, rfl, hg, hc⟩ := hcs (by omega)
      obtain ⟨c0, c1, c2, c3, c4, c5⟩ := hc j hlt
      have HL24 : Hid ((ys.length + 2) * 24 ≤ 140737488355328) := Lib.hid (by have := HLEN.out; have := HS0.out; omega)
      have HLT := Lib.hid hlt
      have HOK := Lib.hid hokj
      obtain ⟨q, hqq⟩ : ∃ q, O j = q := ⟨_, rfl⟩
      rw [hqq] at c0 c1 c2 c3 c4 c5 HOK
      obtain ⟨kd, qa, qb, qn, qk, qs⟩ := q
      dsimp only at c0 c1 c2 c3 c4 c5
      have hw5 := HROW.out.below (below_new wo (.cells #[.int .i64 kd, .int .i64 qa, .int .i64 qb, .int .u64 (qn : Int), .int .i64 qk, .string ⟨qs.toArray⟩] 37))
      have HB5 := Lib.hid (HBE.out.alloc HBE.out.size (.cells #[.int .i64 kd, .int .i64 qa, .int .i64 qb, .int .u64 (qn : Int), .int .i64 qk, .string ⟨qs.toArray⟩] 37))
      have HMD := Lib.hid (fun h => step_made w.heap.size h2 rb ys ⟨kd, qa, qb, qn, qk, qs⟩ _ hw5 HOK.out h HL24.out)
      have HRK := Lib.hid (fun h => step_reckoned w.heap.size h2 rb ys ⟨kd, qa, qb, qn, qk, qs⟩ _ hw5 HPOS.out HOK.out h HL24.out)
      have HAS := Lib.hid (step_asked w.heap.size h2 rb ys ⟨kd, qa, qb, qn, qk, qs⟩ _ hw5 HPOS.out HOK.out HL24.out)
      clear hok hcs hokj hc hlt hj hw5 hqq hg
      have hways : (decide (0 ≤ kd) = true ∧ decide (kd ≤ 2) = true) ∨ (decide (0 ≤ kd) = true ∧ decide (kd ≤ 2) = false ∧ decide (3 ≤ kd) = true ∧ decide (kd ≤ 9) = true) ∨ (decide (0 ≤ kd) = false ∧ decide (3 ≤ kd) = false) ∨ (decide (0 ≤ kd) = true ∧ decide (kd ≤ 2) = false ∧ decide (3 ≤ kd) = true ∧ decide (kd ≤ 9) = false) := by
        simp only [decide_eq_true_eq, decide_eq_false_iff_not]; omega
      rcases hways with ⟨d1, d2⟩ | ⟨d1, d2, d3, d4⟩ | ⟨d1, d3⟩ | ⟨d1, d2, d3, d4⟩
      · have HX := Lib.hid (HMD.out ⟨of_decide_eq_true d1, of_decide_eq_true d2⟩)
        clear HMD HRK HAS
        go_wp2_with fail
        refine HX.out.mono ?_
        rintro e w6 ⟨rfl, ⟨h6, zs, h7, h8, h9⟩, hb6⟩
        have H7 := Lib.hid h7
        have H8 := Lib.hid h8
        have H9 := Lib.hid h9
        have H6 := Lib.hid (HB5.out.trans hb6)
        clear h7 h8 h9 hb6 c0 c1 c2 c3 c4 c5
        go_wp2_with fail
        go_roundw
        case rel => exact ⟨j + 1, h6, zs, by go_num, HLT.out, Nat.lt_of_lt_of_le HPOS.out H7.out, by have := H8.out; have := HLEN.out; omega, H9.out, H6.out⟩
        case measure => have := HLT.out; simp [intOf]; omega
      · have HX := Lib.hid (HRK.out ⟨of_decide_eq_true d3, of_decide_eq_true d4⟩)
        clear HMD HRK HAS
        go_wp2_with fail
        refine HX.out.mono ?_
        rintro e w6 ⟨rfl, ⟨h6, zs, h7, h8, h9⟩, hb6⟩
        have H7 := Lib.hid h7
        have H8 := Lib.hid h8
        have H9 := Lib.hid h9
        have H6 := Lib.hid (HB5.out.trans hb6)
        clear h7 h8 h9 hb6 c0 c1 c2 c3 c4 c5
        go_wp2_with fail
        go_roundw
        case rel => exact ⟨j + 1, h6, zs, by go_num, HLT.out, Nat.lt_of_lt_of_le HPOS.out H7.out, by have := H8.out; have := HLEN.out; omega, H9.out, H6.out⟩
        case measure => have := HLT.out; simp [intOf]; omega
      · have HX := HAS
        clear HMD HRK HAS
        go_wp2_with fail
        refine HX.out.mono ?_
        rintro e w6 ⟨rfl, ⟨h6, zs, h7, h8, h9⟩, hb6⟩
        have H7 := Lib.hid h7
        have H8 := Lib.hid h8
        have H9 := Lib.hid h9
        have H6 := Lib.hid (HB5.out.trans hb6)
        clear h7 h8 h9 hb6 c0 c1 c2 c3 c4 c5
        go_wp2_with fail
        go_roundw
        case rel => exact ⟨j + 1, h6, zs, by go_num, HLT.out, Nat.lt_of_lt_of_le HPOS.out H7.out, by have := H8.out; have := HLEN.out; omega, H9.out, H6.out⟩
        case measure => have := HLT.out; simp [intOf]; omega
      · have HX := HAS
        clear HMD HRK HAS
        go_wp2_with fail
        refine HX.out.mono ?_
        rintro e w6 ⟨rfl, ⟨h6, zs, h7, h8, h9⟩, hb6⟩
        have H7 := Lib.hid h7
        have H8 := Lib.hid h8
        have H9 := Lib.hid h9
        have H6 := Lib.hid (HB5.out.trans hb6)
        clear h7 h8 h9 hb6 c0 c1 c2 c3 c4 c5
        go_wp2_with fail
        go_roundw
        case rel => exact ⟨j + 1, h6, zs, by go_num, HLT.out, Nat.lt_of_lt_of_le HPOS.out H7.out, by have := H8.out; have := HLEN.out; omega, H9.out, H6.out⟩
        case measure => have := HLT.out; simp [intOf]; omega
    · have t1 : decide ((j : Int) < (len0 : Int)) = false := decide_eq_false (by omega)
      have t1' : decide (j < len0) = false := decide_eq_false hlt
      obtain ⟨gp, cp, gd, cd, P, D, hR⟩ := HROW.out
      have HR := Lib.hid hR
      have hyl : ((ys.length : Nat) : Int) ≤ 10000000000000 := by have := HLEN.out; have := HS0.out; have := HJ.out; omega
      have c0 := hR.c0
      clear hR hlt hj
      go_wp2_with fail
      clear c0
      go_loopw [58] (fun s58 wr => ∃ k : Nat, s58 = .int .i64 (k : Nat) ∧ k ≤ ys.length ∧ Below wo.heap.size wo wr) (fun s58 _ => ys.length - (intOf s58).toNat)
      case atStart => exact ⟨0, rfl, Nat.zero_le _, Below.refl _ _⟩
      case round =>
        obtain ⟨k, rfl, hk, hbk⟩ := hrel
        obtain ⟨wp, rfl⟩ : ∃ wp : World, wp = wr := ⟨_, rfl⟩
        have HBK := Lib.hid hbk
        have HRk := Lib.hid (HR.out.below hbk)
        clear hbk
        by_cases hkl : k < ys.length
        · have t2 : decide ((k : Int) < ((ys.length : Nat) : Int)) = true := decide_eq_true (by omega)
          have t2' : decide (k < ys.length) = true := decide_eq_true hkl
          have q1 : (k : Int) < ((ys.length : Nat) : Int) := by omega
          obtain ⟨A, n, c, hc, hn⟩ := HRk.out.atP k hkl
          obtain ⟨B, m, d, hd, hr⟩ := HRk.out.atD k hkl
          have hsm := HRk.out.small _ (List.getElem_mem hkl)
          obtain ⟨x, hx⟩ : ∃ x, ys[k] = x := ⟨_, rfl⟩
          rw [hx] at hn hr hsm
          obtain ⟨M, hM⟩ : ∃ M, M = 8192 := ⟨_, rfl⟩
          obtain ⟨Y, hY⟩ : ∃ Y, Y = 4096 := ⟨_, rfl⟩
          have hgp : gp < wp.heap.size := Nat.lt_of_lt_of_le HRk.out.hgp HRk.out.le
          have hgd : gd < wp.heap.size := Nat.lt_of_lt_of_le HRk.out.hgd HRk.out.le
          have HC := Lib.hid (fun W (hb : Below wp.heap.size wp W) => keepc hb hgp hc)
          have HD := Lib.hid (fun W (hb : Below wp.heap.size wp W) => keepc hb hgd hd)
          have HT := Lib.hid (fun W (hb : Below wp.heap.size wp W) => text_nat _ x W (hn.below hb).w (by omega))
          have HU := Lib.hid (fun W (hb : Below wp.heap.size wp W) => rtext_nat _ x Y W (hr.below hb).w (blen_b4 (M := M) (by rw [hM]; exact hsm) hM hY) (by omega))
          have HM := Lib.hid (fun W (hb : Below wp.heap.size wp W) => cmp_nat _ _ x x W (hn.below hb).w (hn.below hb).w (by omega) (by omega))
          have hc0 : cmpI x x = 0 := by unfold cmpI; rw [if_pos rfl]
          rw [hc0] at HM
          obtain ⟨z, hz⟩ : ∃ z, dtext x = z := ⟨_, rfl⟩
          rw [hz] at HT HU
          have tz : (z == z) = true := by simp
          have HKL := Lib.hid hkl
          clear hc hn hd hr hsm hx hM hY hgp hgd hc0 hz hkl hk
          go_upto_region 20 with fail
          obtain ⟨S0_0, S0_0D⟩ : ∃ S : World → Prop, Go.RowKit.Hid (∀ w' : World, S w' ↔ ((RowS w.heap.size h2 w' rb gp cp gd cd ys ys P D) ∧ (Below wp.heap.size wp w'))) := ⟨_, Lib.hid (fun _ => Iff.rfl)⟩
          refine wp_region_way (S := S0_0) (by kernel_rfl) (by kernel_rfl) (fun W W' h hb => by obtain ⟨h_r, h_u⟩ := (S0_0D.out _).1 h; exact (S0_0D.out _).2 ⟨h_r.below hb, keepb h_u hb⟩) ((S0_0D.out _).2 ⟨HRk.out.below (Below.refl wp.heap.size wp).drew, (Below.refl wp.heap.size wp).drew⟩) ?_
          first
            | (refine Way.no 0 (by rfl) (by kernel_rfl) (by rfl) ?_; simp only [Act.put, List.setIfInBounds_toArray, List.set_cons_zero, List.set_cons_succ])
            | (refine' Way.yes 0 (by rfl) (by kernel_rfl) (by rfl) (fun wS hS => ?_) ?_
               rotate_left
               · obtain ⟨h_r, h_u⟩ := (S0_0D.out _).1 hS
                 have c0 := h_r.c0
                 have cd0 := h_r.c1
                 have e1 := HC.out _ h_u
                 have e2 := HD.out _ h_u
                 go_simp
                 first
                   | exact ⟨rfl, Below.refl _ _⟩
               simp only [Act.put, List.setIfInBounds_toArray, List.set_cons_zero, List.set_cons_succ])
          first
            | (refine Way.no 1 (by rfl) (by kernel_rfl) (by rfl) ?_; simp only [Act.put, List.setIfInBounds_toArray, List.set_cons_zero, List.set_cons_succ])
            | (refine' Way.yes 1 (by rfl) (by kernel_rfl) (by rfl) (fun wS hS => ?_) ?_
               rotate_left
               · obtain ⟨h_r, h_u⟩ := (S0_0D.out _).1 hS
                 have c0 := h_r.c0
                 have cd0 := h_r.c1
                 have e1 := HC.out _ h_u
                 have e2 := HD.out _ h_u
                 go_simp
                 first
                   | exact ⟨rfl, Below.refl _ _⟩
               simp only [Act.put, List.setIfInBounds_toArray, List.set_cons_zero, List.set_cons_succ])
          first
            | (refine Way.no 2 (by rfl) (by kernel_rfl) (by rfl) ?_; simp only [Act.put, List.setIfInBounds_toArray, List.set_cons_zero, List.set_cons_succ])
            | (refine' Way.yes 2 (by rfl) (by kernel_rfl) (by rfl) (fun wS hS => ?_) ?_
               rotate_left
               · obtain ⟨h_r, h_u⟩ := (S0_0D.out _).1 hS
                 have c0 := h_r.c0
                 have cd0 := h_r.c1
                 have e1 := HC.out _ h_u
                 have e2 := HD.out _ h_u
                 go_simp
                 first
                   | exact ⟨rfl, Below.refl _ _⟩
               simp only [Act.put, List.setIfInBounds_toArray, List.set_cons_zero, List.set_cons_succ])
          first
            | (refine Way.no 3 (by rfl) (by kernel_rfl) (by rfl) ?_; simp only [Act.put, List.setIfInBounds_toArray, List.set_cons_zero, List.set_cons_succ])
            | (refine' Way.yes 3 (by rfl) (by kernel_rfl) (by rfl) (fun wS hS => ?_) ?_
               rotate_left
               · obtain ⟨h_r, h_u⟩ := (S0_0D.out _).1 hS
                 have c0 := h_r.c0
                 have cd0 := h_r.c1
                 have e1 := HC.out _ h_u
                 have e2 := HD.out _ h_u
                 go_simp
                 first
                   | exact ⟨rfl, Below.refl _ _⟩
               simp only [Act.put, List.setIfInBounds_toArray, List.set_cons_zero, List.set_cons_succ])
          first
            | (refine Way.no 4 (by rfl) (by kernel_rfl) (by rfl) ?_; simp only [Act.put, List.setIfInBounds_toArray, List.set_cons_zero, List.set_cons_succ])
            | (refine' Way.yes 4 (by rfl) (by kernel_rfl) (by rfl) (fun wS hS => ?_) ?_
               rotate_left
               · obtain ⟨h_r, h_u⟩ := (S0_0D.out _).1 hS
                 have c0 := h_r.c0
                 have cd0 := h_r.c1
                 have e1 := HC.out _ h_u
                 have e2 := HD.out _ h_u
                 go_simp
                 first
                   | exact ⟨rfl, Below.refl _ _⟩
               simp only [Act.put, List.setIfInBounds_toArray, List.set_cons_zero, List.set_cons_succ])
          first
            | (refine Way.no 5 (by rfl) (by kernel_rfl) (by rfl) ?_; simp only [Act.put, List.setIfInBounds_toArray, List.set_cons_zero, List.set_cons_succ])
            | (refine' Way.yes 5 (by rfl) (by kernel_rfl) (by rfl) (fun wS hS => ?_) ?_
               rotate_left
               · obtain ⟨h_r, h_u⟩ := (S0_0D.out _).1 hS
                 have c0 := h_r.c0
                 have cd0 := h_r.c1
                 have e1 := HC.out _ h_u
                 have e2 := HD.out _ h_u
                 go_simp
                 first
                   | exact ⟨rfl, Below.refl _ _⟩
               simp only [Act.put, List.setIfInBounds_toArray, List.set_cons_zero, List.set_cons_succ])
          first
            | (refine Way.no 6 (by rfl) (by kernel_rfl) (by rfl) ?_; simp only [Act.put, List.setIfInBounds_toArray, List.set_cons_zero, List.set_cons_succ])
            | (refine' Way.yes 6 (by rfl) (by kernel_rfl) (by rfl) (fun wS hS => ?_) ?_
               rotate_left
               · obtain ⟨h_r, h_u⟩ := (S0_0D.out _).1 hS
                 have c0 := h_r.c0
                 have cd0 := h_r.c1
                 have e1 := HC.out _ h_u
                 have e2 := HD.out _ h_u
                 go_simp
                 first
                   | exact ⟨rfl, Below.refl _ _⟩
               simp only [Act.put, List.setIfInBounds_toArray, List.set_cons_zero, List.set_cons_succ])
          refine' Way.yes (v := .string ⟨z.toArray⟩) 7 (by rfl) (by kernel_rfl) (by rfl) (fun wS hS => ?_) ?_
          · obtain ⟨h_r, h_u⟩ := (S0_0D.out _).1 hS
            go_simp
            exact (HT.out _ h_u).mono fun e w2 h => h
          simp only [Act.put, List.setIfInBounds_toArray, List.set_cons_zero, List.set_cons_succ]
          first
            | (refine Way.no 8 (by rfl) (by kernel_rfl) (by rfl) ?_; simp only [Act.put, List.setIfInBounds_toArray, List.set_cons_zero, List.set_cons_succ])
            | (refine' Way.yes 8 (by rfl) (by kernel_rfl) (by rfl) (fun wS hS => ?_) ?_
               rotate_left
               · obtain ⟨h_r, h_u⟩ := (S0_0D.out _).1 hS
                 have c0 := h_r.c0
                 have cd0 := h_r.c1
                 have e1 := HC.out _ h_u
                 have e2 := HD.out _ h_u
                 go_simp
                 first
                   | exact ⟨rfl, Below.refl _ _⟩
               simp only [Act.put, List.setIfInBounds_toArray, List.set_cons_zero, List.set_cons_succ])
          first
            | (refine Way.no 9 (by rfl) (by kernel_rfl) (by rfl) ?_; simp only [Act.put, List.setIfInBounds_toArray, List.set_cons_zero, List.set_cons_succ])
            | (refine' Way.yes 9 (by rfl) (by kernel_rfl) (by rfl) (fun wS hS => ?_) ?_
               rotate_left
               · obtain ⟨h_r, h_u⟩ := (S0_0D.out _).1 hS
                 have c0 := h_r.c0
                 have cd0 := h_r.c1
                 have e1 := HC.out _ h_u
                 have e2 := HD.out _ h_u
                 go_simp
                 first
                   | exact ⟨rfl, Below.refl _ _⟩
               simp only [Act.put, List.setIfInBounds_toArray, List.set_cons_zero, List.set_cons_succ])
          first
            | (refine Way.no 10 (by rfl) (by kernel_rfl) (by rfl) ?_; simp only [Act.put, List.setIfInBounds_toArray, List.set_cons_zero, List.set_cons_succ])
            | (refine' Way.yes 10 (by rfl) (by kernel_rfl) (by rfl) (fun wS hS => ?_) ?_
               rotate_left
               · obtain ⟨h_r, h_u⟩ := (S0_0D.out _).1 hS
                 have c0 := h_r.c0
                 have cd0 := h_r.c1
                 have e1 := HC.out _ h_u
                 have e2 := HD.out _ h_u
                 go_simp
                 first
                   | exact ⟨rfl, Below.refl _ _⟩
               simp only [Act.put, List.setIfInBounds_toArray, List.set_cons_zero, List.set_cons_succ])
          first
            | (refine Way.no 11 (by rfl) (by kernel_rfl) (by rfl) ?_; simp only [Act.put, List.setIfInBounds_toArray, List.set_cons_zero, List.set_cons_succ])
            | (refine' Way.yes 11 (by rfl) (by kernel_rfl) (by rfl) (fun wS hS => ?_) ?_
               rotate_left
               · obtain ⟨h_r, h_u⟩ := (S0_0D.out _).1 hS
                 have c0 := h_r.c0
                 have cd0 := h_r.c1
                 have e1 := HC.out _ h_u
                 have e2 := HD.out _ h_u
                 go_simp
                 first
                   | exact ⟨rfl, Below.refl _ _⟩
               simp only [Act.put, List.setIfInBounds_toArray, List.set_cons_zero, List.set_cons_succ])
          first
            | (refine Way.no 12 (by rfl) (by kernel_rfl) (by rfl) ?_; simp only [Act.put, List.setIfInBounds_toArray, List.set_cons_zero, List.set_cons_succ])
            | (refine' Way.yes 12 (by rfl) (by kernel_rfl) (by rfl) (fun wS hS => ?_) ?_
               rotate_left
               · obtain ⟨h_r, h_u⟩ := (S0_0D.out _).1 hS
                 have c0 := h_r.c0
                 have cd0 := h_r.c1
                 have e1 := HC.out _ h_u
                 have e2 := HD.out _ h_u
                 go_simp
                 first
                   | exact ⟨rfl, Below.refl _ _⟩
               simp only [Act.put, List.setIfInBounds_toArray, List.set_cons_zero, List.set_cons_succ])
          first
            | (refine Way.no 13 (by rfl) (by kernel_rfl) (by rfl) ?_; simp only [Act.put, List.setIfInBounds_toArray, List.set_cons_zero, List.set_cons_succ])
            | (refine' Way.yes 13 (by rfl) (by kernel_rfl) (by rfl) (fun wS hS => ?_) ?_
               rotate_left
               · obtain ⟨h_r, h_u⟩ := (S0_0D.out _).1 hS
                 have c0 := h_r.c0
                 have cd0 := h_r.c1
                 have e1 := HC.out _ h_u
                 have e2 := HD.out _ h_u
                 go_simp
                 first
                   | exact ⟨rfl, Below.refl _ _⟩
               simp only [Act.put, List.setIfInBounds_toArray, List.set_cons_zero, List.set_cons_succ])
          first
            | (refine Way.no 14 (by rfl) (by kernel_rfl) (by rfl) ?_; simp only [Act.put, List.setIfInBounds_toArray, List.set_cons_zero, List.set_cons_succ])
            | (refine' Way.yes 14 (by rfl) (by kernel_rfl) (by rfl) (fun wS hS => ?_) ?_
               rotate_left
               · obtain ⟨h_r, h_u⟩ := (S0_0D.out _).1 hS
                 have c0 := h_r.c0
                 have cd0 := h_r.c1
                 have e1 := HC.out _ h_u
                 have e2 := HD.out _ h_u
                 go_simp
                 first
                   | exact ⟨rfl, Below.refl _ _⟩
               simp only [Act.put, List.setIfInBounds_toArray, List.set_cons_zero, List.set_cons_succ])
          refine' Way.yes (v := .string ⟨z.toArray⟩) 15 (by rfl) (by kernel_rfl) (by rfl) (fun wS hS => ?_) ?_
          · obtain ⟨h_r, h_u⟩ := (S0_0D.out _).1 hS
            go_simp
            exact (HU.out _ h_u).mono fun e w2 h => h
          simp only [Act.put, List.setIfInBounds_toArray, List.set_cons_zero, List.set_cons_succ]
          first
            | (refine Way.no 16 (by rfl) (by kernel_rfl) (by rfl) ?_; simp only [Act.put, List.setIfInBounds_toArray, List.set_cons_zero, List.set_cons_succ])
            | (refine' Way.yes 16 (by rfl) (by kernel_rfl) (by rfl) (fun wS hS => ?_) ?_
               rotate_left
               · obtain ⟨h_r, h_u⟩ := (S0_0D.out _).1 hS
                 have c0 := h_r.c0
                 have cd0 := h_r.c1
                 have e1 := HC.out _ h_u
                 have e2 := HD.out _ h_u
                 go_simp
                 first
                   | exact ⟨rfl, Below.refl _ _⟩
               simp only [Act.put, List.setIfInBounds_toArray, List.set_cons_zero, List.set_cons_succ])
          first
            | (refine Way.no 17 (by rfl) (by kernel_rfl) (by rfl) ?_; simp only [Act.put, List.setIfInBounds_toArray, List.set_cons_zero, List.set_cons_succ])
            | (refine' Way.yes 17 (by rfl) (by kernel_rfl) (by rfl) (fun wS hS => ?_) ?_
               rotate_left
               · obtain ⟨h_r, h_u⟩ := (S0_0D.out _).1 hS
                 have c0 := h_r.c0
                 have cd0 := h_r.c1
                 have e1 := HC.out _ h_u
                 have e2 := HD.out _ h_u
                 go_simp
                 first
                   | exact ⟨rfl, Below.refl _ _⟩
               simp only [Act.put, List.setIfInBounds_toArray, List.set_cons_zero, List.set_cons_succ])
          first
            | (refine Way.no 18 (by rfl) (by kernel_rfl) (by rfl) ?_; simp only [Act.put, List.setIfInBounds_toArray, List.set_cons_zero, List.set_cons_succ])
            | (refine' Way.yes 18 (by rfl) (by kernel_rfl) (by rfl) (fun wS hS => ?_) ?_
               rotate_left
               · obtain ⟨h_r, h_u⟩ := (S0_0D.out _).1 hS
                 have c0 := h_r.c0
                 have cd0 := h_r.c1
                 have e1 := HC.out _ h_u
                 have e2 := HD.out _ h_u
                 go_simp
                 first
                   | exact ⟨rfl, Below.refl _ _⟩
               simp only [Act.put, List.setIfInBounds_toArray, List.set_cons_zero, List.set_cons_succ])
          first
            | (refine Way.no 19 (by rfl) (by kernel_rfl) (by rfl) ?_; simp only [Act.put, List.setIfInBounds_toArray, List.set_cons_zero, List.set_cons_succ])
            | (refine' Way.yes 19 (by rfl) (by kernel_rfl) (by rfl) (fun wS hS => ?_) ?_
               rotate_left
               · obtain ⟨h_r, h_u⟩ := (S0_0D.out _).1 hS
                 have c0 := h_r.c0
                 have cd0 := h_r.c1
                 have e1 := HC.out _ h_u
                 have e2 := HD.out _ h_u
                 go_simp
                 first
                   | exact ⟨rfl, Below.refl _ _⟩
               simp only [Act.put, List.setIfInBounds_toArray, List.set_cons_zero, List.set_cons_succ])
          first
            | (refine Way.no 20 (by rfl) (by kernel_rfl) (by rfl) ?_; simp only [Act.put, List.setIfInBounds_toArray, List.set_cons_zero, List.set_cons_succ])
            | (refine' Way.yes 20 (by rfl) (by kernel_rfl) (by rfl) (fun wS hS => ?_) ?_
               rotate_left
               · obtain ⟨h_r, h_u⟩ := (S0_0D.out _).1 hS
                 have c0 := h_r.c0
                 have cd0 := h_r.c1
                 have e1 := HC.out _ h_u
                 have e2 := HD.out _ h_u
                 go_simp
                 first
                   | exact ⟨rfl, Below.refl _ _⟩
               simp only [Act.put, List.setIfInBounds_toArray, List.set_cons_zero, List.set_cons_succ])
          first
            | (refine Way.no 21 (by rfl) (by kernel_rfl) (by rfl) ?_; simp only [Act.put, List.setIfInBounds_toArray, List.set_cons_zero, List.set_cons_succ])
            | (refine' Way.yes 21 (by rfl) (by kernel_rfl) (by rfl) (fun wS hS => ?_) ?_
               rotate_left
               · obtain ⟨h_r, h_u⟩ := (S0_0D.out _).1 hS
                 have c0 := h_r.c0
                 have cd0 := h_r.c1
                 have e1 := HC.out _ h_u
                 have e2 := HD.out _ h_u
                 go_simp
                 first
                   | exact ⟨rfl, Below.refl _ _⟩
               simp only [Act.put, List.setIfInBounds_toArray, List.set_cons_zero, List.set_cons_succ])
          first
            | (refine Way.no 22 (by rfl) (by kernel_rfl) (by rfl) ?_; simp only [Act.put, List.setIfInBounds_toArray, List.set_cons_zero, List.set_cons_succ])
            | (refine' Way.yes 22 (by rfl) (by kernel_rfl) (by rfl) (fun wS hS => ?_) ?_
               rotate_left
               · obtain ⟨h_r, h_u⟩ := (S0_0D.out _).1 hS
                 have c0 := h_r.c0
                 have cd0 := h_r.c1
                 have e1 := HC.out _ h_u
                 have e2 := HD.out _ h_u
                 go_simp
                 first
                   | exact ⟨rfl, Below.refl _ _⟩
               simp only [Act.put, List.setIfInBounds_toArray, List.set_cons_zero, List.set_cons_succ])
          first
            | (refine Way.no 23 (by rfl) (by kernel_rfl) (by rfl) ?_; simp only [Act.put, List.setIfInBounds_toArray, List.set_cons_zero, List.set_cons_succ])
            | (refine' Way.yes 23 (by rfl) (by kernel_rfl) (by rfl) (fun wS hS => ?_) ?_
               rotate_left
               · obtain ⟨h_r, h_u⟩ := (S0_0D.out _).1 hS
                 have c0 := h_r.c0
                 have cd0 := h_r.c1
                 have e1 := HC.out _ h_u
                 have e2 := HD.out _ h_u
                 go_simp
                 first
                   | exact ⟨rfl, Below.refl _ _⟩
               simp only [Act.put, List.setIfInBounds_toArray, List.set_cons_zero, List.set_cons_succ])
          first
            | (refine Way.no 24 (by rfl) (by kernel_rfl) (by rfl) ?_; simp only [Act.put, List.setIfInBounds_toArray, List.set_cons_zero, List.set_cons_succ])
            | (refine' Way.yes 24 (by rfl) (by kernel_rfl) (by rfl) (fun wS hS => ?_) ?_
               rotate_left
               · obtain ⟨h_r, h_u⟩ := (S0_0D.out _).1 hS
                 have c0 := h_r.c0
                 have cd0 := h_r.c1
                 have e1 := HC.out _ h_u
                 have e2 := HD.out _ h_u
                 go_simp
                 first
                   | exact ⟨rfl, Below.refl _ _⟩
               simp only [Act.put, List.setIfInBounds_toArray, List.set_cons_zero, List.set_cons_succ])
          first
            | (refine Way.no 25 (by rfl) (by kernel_rfl) (by rfl) ?_; simp only [Act.put, List.setIfInBounds_toArray, List.set_cons_zero, List.set_cons_succ])
            | (refine' Way.yes 25 (by rfl) (by kernel_rfl) (by rfl) (fun wS hS => ?_) ?_
               rotate_left
               · obtain ⟨h_r, h_u⟩ := (S0_0D.out _).1 hS
                 have c0 := h_r.c0
                 have cd0 := h_r.c1
                 have e1 := HC.out _ h_u
                 have e2 := HD.out _ h_u
                 go_simp
                 first
                   | exact ⟨rfl, Below.refl _ _⟩
               simp only [Act.put, List.setIfInBounds_toArray, List.set_cons_zero, List.set_cons_succ])
          first
            | (refine Way.no 26 (by rfl) (by kernel_rfl) (by rfl) ?_; simp only [Act.put, List.setIfInBounds_toArray, List.set_cons_zero, List.set_cons_succ])
            | (refine' Way.yes 26 (by rfl) (by kernel_rfl) (by rfl) (fun wS hS => ?_) ?_
               rotate_left
               · obtain ⟨h_r, h_u⟩ := (S0_0D.out _).1 hS
                 have c0 := h_r.c0
                 have cd0 := h_r.c1
                 have e1 := HC.out _ h_u
                 have e2 := HD.out _ h_u
                 go_simp
                 first
                   | exact ⟨rfl, Below.refl _ _⟩
               simp only [Act.put, List.setIfInBounds_toArray, List.set_cons_zero, List.set_cons_succ])
          first
            | (refine Way.no 27 (by rfl) (by kernel_rfl) (by rfl) ?_; simp only [Act.put, List.setIfInBounds_toArray, List.set_cons_zero, List.set_cons_succ])
            | (refine' Way.yes 27 (by rfl) (by kernel_rfl) (by rfl) (fun wS hS => ?_) ?_
               rotate_left
               · obtain ⟨h_r, h_u⟩ := (S0_0D.out _).1 hS
                 have c0 := h_r.c0
                 have cd0 := h_r.c1
                 have e1 := HC.out _ h_u
                 have e2 := HD.out _ h_u
                 go_simp
                 first
                   | exact ⟨rfl, Below.refl _ _⟩
               simp only [Act.put, List.setIfInBounds_toArray, List.set_cons_zero, List.set_cons_succ])
          first
            | (refine Way.no 28 (by rfl) (by kernel_rfl) (by rfl) ?_; simp only [Act.put, List.setIfInBounds_toArray, List.set_cons_zero, List.set_cons_succ])
            | (refine' Way.yes 28 (by rfl) (by kernel_rfl) (by rfl) (fun wS hS => ?_) ?_
               rotate_left
               · obtain ⟨h_r, h_u⟩ := (S0_0D.out _).1 hS
                 have c0 := h_r.c0
                 have cd0 := h_r.c1
                 have e1 := HC.out _ h_u
                 have e2 := HD.out _ h_u
                 go_simp
                 first
                   | exact ⟨rfl, Below.refl _ _⟩
               simp only [Act.put, List.setIfInBounds_toArray, List.set_cons_zero, List.set_cons_succ])
          first
            | (refine Way.no 29 (by rfl) (by kernel_rfl) (by rfl) ?_; simp only [Act.put, List.setIfInBounds_toArray, List.set_cons_zero, List.set_cons_succ])
            | (refine' Way.yes 29 (by rfl) (by kernel_rfl) (by rfl) (fun wS hS => ?_) ?_
               rotate_left
               · obtain ⟨h_r, h_u⟩ := (S0_0D.out _).1 hS
                 have c0 := h_r.c0
                 have cd0 := h_r.c1
                 have e1 := HC.out _ h_u
                 have e2 := HD.out _ h_u
                 go_simp
                 first
                   | exact ⟨rfl, Below.refl _ _⟩
               simp only [Act.put, List.setIfInBounds_toArray, List.set_cons_zero, List.set_cons_succ])
          first
            | (refine Way.no 30 (by rfl) (by kernel_rfl) (by rfl) ?_; simp only [Act.put, List.setIfInBounds_toArray, List.set_cons_zero, List.set_cons_succ])
            | (refine' Way.yes 30 (by rfl) (by kernel_rfl) (by rfl) (fun wS hS => ?_) ?_
               rotate_left
               · obtain ⟨h_r, h_u⟩ := (S0_0D.out _).1 hS
                 have c0 := h_r.c0
                 have cd0 := h_r.c1
                 have e1 := HC.out _ h_u
                 have e2 := HD.out _ h_u
                 go_simp
                 first
                   | exact ⟨rfl, Below.refl _ _⟩
               simp only [Act.put, List.setIfInBounds_toArray, List.set_cons_zero, List.set_cons_succ])
          first
            | (refine Way.no 31 (by rfl) (by kernel_rfl) (by rfl) ?_; simp only [Act.put, List.setIfInBounds_toArray, List.set_cons_zero, List.set_cons_succ])
            | (refine' Way.yes 31 (by rfl) (by kernel_rfl) (by rfl) (fun wS hS => ?_) ?_
               rotate_left
               · obtain ⟨h_r, h_u⟩ := (S0_0D.out _).1 hS
                 have c0 := h_r.c0
                 have cd0 := h_r.c1
                 have e1 := HC.out _ h_u
                 have e2 := HD.out _ h_u
                 go_simp
                 first
                   | exact ⟨rfl, Below.refl _ _⟩
               simp only [Act.put, List.setIfInBounds_toArray, List.set_cons_zero, List.set_cons_succ])
          refine' Way.yes (v := .int .i64 0) 32 (by rfl) (by kernel_rfl) (by rfl) (fun wS hS => ?_) ?_
          · obtain ⟨h_r, h_u⟩ := (S0_0D.out _).1 hS
            go_simp
            exact (HM.out _ h_u).mono fun e w2 h => h
          simp only [Act.put, List.setIfInBounds_toArray, List.set_cons_zero, List.set_cons_succ]
          first
            | (refine Way.no 33 (by rfl) (by kernel_rfl) (by rfl) ?_; simp only [Act.put, List.setIfInBounds_toArray, List.set_cons_zero, List.set_cons_succ])
            | (refine' Way.yes 33 (by rfl) (by kernel_rfl) (by rfl) (fun wS hS => ?_) ?_
               rotate_left
               · obtain ⟨h_r, h_u⟩ := (S0_0D.out _).1 hS
                 go_simp
                 first
                   | exact ⟨rfl, Below.refl _ _⟩
               simp only [Act.put, List.setIfInBounds_toArray, List.set_cons_zero, List.set_cons_succ])
          first
            | (refine Way.no 34 (by rfl) (by kernel_rfl) (by rfl) ?_; simp only [Act.put, List.setIfInBounds_toArray, List.set_cons_zero, List.set_cons_succ])
            | (refine' Way.yes 34 (by rfl) (by kernel_rfl) (by rfl) (fun wS hS => ?_) ?_
               rotate_left
               · obtain ⟨h_r, h_u⟩ := (S0_0D.out _).1 hS
                 go_simp
                 first
                   | exact ⟨rfl, Below.refl _ _⟩
               simp only [Act.put, List.setIfInBounds_toArray, List.set_cons_zero, List.set_cons_succ])
          refine Way.done (by kernel_rfl) (fun v9 hS => ?_)
          obtain ⟨h_r, h_u⟩ := (S0_0D.out _).1 hS
          have H_r := Lib.hid h_r
          have H_u := Lib.hid h_u
          clear hS h_r h_u
          go_wp2_with fail
          go_roundw
          case rel => exact ⟨k + 1, by go_num, HKL.out, keepb HBK.out H_u.out⟩
          case measure => have := HKL.out; simp [intOf]; omega
        · have t2 : decide ((k : Int) < ((ys.length : Nat) : Int)) = false := decide_eq_false (by omega)
          have t2' : decide (k < ys.length) = false := decide_eq_false hkl
          clear hkl hk
          go_wp2_with fail
          go_ret
          exact ⟨rfl, keepb HBE.out HBK.out⟩
end Go.Proofs.YtgihkmofpncobaaDoor.wideNats
