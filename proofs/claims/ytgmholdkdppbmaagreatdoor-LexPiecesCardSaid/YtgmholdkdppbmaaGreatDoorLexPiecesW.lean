/- LexPieces: the walk. -/
import Derived.Test.YtgmholdkdppbmaaGreatDoorLexGAK
import Derived.Test.YtgmholdkdppbmaaGreatDoorLexGAL
import Derived.Test.YtgmholdkdppbmaaGreatDoorRows
namespace Go.Proofs.YtgmholdkdppbmaaGreatDoor.lexPieces
open Go.RowKit Go.Proofs.YtgmholdkdppbmaaGreatDoor.Lx
set_option linter.unusedSimpArgs false
set_option linter.unusedVariables false
/-- What is known of a slice of integers that came in. -/
def IsRow (k : IntKind) (w : World) (a : Option Addr) (len cap : Nat) (zs : List Int) : Prop :=
  (a = none ∧ len = 0 ∧ cap = 0 ∧ zs = []) ∨
  ∃ x, a = some x ∧ len ≤ cap ∧ cap ≤ maxLen ∧ zs.length = cap ∧ (∀ i, i < zs.length → w.cell? (x.add i) = some (.int k (zs.getD i 0))) ∧ ∀ n ∈ zs, (Lit.int k n).wf = true
set_option maxRecDepth 100000 in
set_option maxHeartbeats 8000000 in
theorem core (n c : Nat) (A : Option Addr) (cut : Int) (k : Nat) (bs : List UInt8) (w : World) (hR : RB w w.heap.size A n bs) (hn : n ≤ 2147483647) (hnc : n ≤ c) (hc : c ≤ 9223372036854775807) (hk : k ≤ n)
    (hcase : (cut < 0 ∧ (n : Int) / 2 = k) ∨ (0 ≤ cut ∧ (n : Int) < cut ∧ (n : Int) / 2 = k) ∨ (0 ≤ cut ∧ cut ≤ n ∧ cut = k)) :
    Calls Tryz.prog 6 #[.slice A n c, .int .i64 cut] w fun e w' => e = .returned (.bool true) ∧ Below w.heap.size w w' := by
  have hbl := hR.1
  subst hbl
  have HR := Lib.hid hR
  clear hR
  have HB := Lib.hid (fun W => beyond_any bs.length W (by omega))
  rw [show decide (2147483647 < bs.length) = false by simp; omega] at HB
  have HRD := Lib.hid (fun W => rRead_any bs true W (by omega))
  obtain ⟨o, ho⟩ : ∃ o, refO bs true = o := ⟨_, rfl⟩
  have hol := refO_len bs true
  have hot := refO_term bs true
  have HEN := Lib.hid (fun (w0 W : World) (b1 b2 : Nat) (s2 : List UInt8) (e2 : Bool) (k2 : Nat) (h : Two w0 W b1 bs false 0 b2 s2 e2 k2) => two_end h)
  have HNX := Lib.hid (fun (w0 W : World) (b1 b2 k1 : Nat) (s2 : List UInt8) (e2 : Bool) (k2 : Nat) (h : Two w0 W b1 bs true k1 b2 s2 e2 k2) => @two_next _ _ _ _ _ _ _ _ _ _ h)
  have HLA := Lib.hid (fun (w0 W : World) (b1 b2 k1 : Nat) (s2 : List UInt8) (e2 : Bool) (k2 : Nat) (h : Two w0 W b1 bs true k1 b2 s2 e2 k2) => two_last h)
  rw [ho] at HRD hol hot HEN HNX HLA
  have HOL := Lib.hid hol
  have HOT := Lib.hid hot
  clear ho hol hot
  unfold OtE at HRD
  rcases hcase with ⟨t1, t2⟩ | ⟨t1, t2, t3⟩ | ⟨t1, t2, rfl⟩
  all_goals
    have k0 := str_of_RB HR.out c
    go_enter Tryz.func6, Tryz.ntmps6
    go_wp2_with fail
    refine (HB.out _).mono ?_
    rintro e w' ⟨rfl, rfl⟩
    go_wp2_with fail
    refine (HRD.out _).mono ?_
    rintro e w1 ⟨v, rfl, hown, b1⟩
    clear k0
    obtain ⟨A1, c1, rfl, _⟩ := own_shape9 hown
    have HOWN := Lib.hid (hown.alloc (.cells #[.slice A1 o.toks.length c1, .int .i64 (o.no : Nat), .int .i64 (o.pos : Nat), .int .i64 (o.found : Nat), .int .i64 (o.held : Nat)] 32))
    have HBK := Lib.hid (Blk.new w1 32 #[.slice A1 o.toks.length c1, .int .i64 (o.no : Nat), .int .i64 (o.pos : Nat), .int .i64 (o.found : Nat), .int .i64 (o.held : Nat)])
    have B1 := Lib.hid (b1.alloc b1.size (.cells #[.slice A1 o.toks.length c1, .int .i64 (o.no : Nat), .int .i64 (o.pos : Nat), .int .i64 (o.found : Nat), .int .i64 (o.held : Nat)] 32))
    have hs1 := b1.size
    have HTE := Lib.hid (fun W => tells_any (.slice A1 o.toks.length c1) o.no o.pos o.found o.held W ⟨_, _, _, rfl⟩)
    clear hown b1
    go_wp2_with fail
    generalize w1.alloc (.cells #[.slice A1 o.toks.length c1, .int .i64 (o.no : Nat), .int .i64 (o.pos : Nat), .int .i64 (o.found : Nat), .int .i64 (o.held : Nat)] 32) = W1 at *
    obtain ⟨m, hm⟩ : ∃ m, o.toks.length = m := ⟨_, rfl⟩
    rw [hm] at HOWN HBK HTE HLA
    have HM := Lib.hid hm
    have hmb : m ≤ 2147483647 := by have := HOL.out; omega
    clear hm
    have hsW := B1.out.size
    have HRW := Lib.hid (fun (W : World) (hW : Below W1.heap.size W1 W) => ((HR.out.below B1.out).below (hW.mono hsW)).mono hsW)
    have HBW := Lib.hid (fun (W : World) (hW : Below W1.heap.size W1 W) => cells5 (HBK.out.below hW HBK.out.lt))
    refine (one_new (w0 := W1) (Nat.le_refl _)).mono ?_
    rintro e w2 ⟨rfl, o1, b2⟩
    have X1 := Lib.hid o1
    have B2 := Lib.hid b2
    clear o1 b2
    go_wp2_with fail
    refine (two_new X1.out).mono ?_
    rintro e w3 ⟨rfl, o2, b3⟩
    have T3 := Lib.hid o2
    have B3 := Lib.hid (keepb B2.out b3)
    clear o2 b3 X1
    obtain ⟨h1, hh1⟩ : ∃ h, W1.heap.size = h := ⟨_, rfl⟩
    obtain ⟨h2, hh2⟩ : ∃ h, w2.heap.size = h := ⟨_, rfl⟩
    rw [hh1, hh2] at T3
    rw [hh1, hh2]
    have HH1 := Lib.hid hh1
    clear hh1 hh2 B2
    obtain ⟨A2, hA2⟩ : ∃ A2, (if c = k then A else Option.map (fun x => x.add k) A) = A2 := ⟨_, rfl⟩
    have hA0 : (if c = 0 then A else Option.map (fun x => x.add 0) A) = A := by
      split
      · rfl
      · cases A <;> simp [Addr.add]
    have r1 := cutA9 (HRW.out w3 B3.out) hnc (show 0 + k ≤ bs.length by omega)
    rw [hA0, List.drop_zero] at r1
    have R1 := Lib.hid r1
    clear r1
    go_wp2_with fail
    refine (two_feed T3.out A k c (bs.take k) R1.out (by omega)).mono ?_
    rintro e w4 ⟨⟨v1, rfl⟩, t4, b4⟩
    have T4 := Lib.hid t4
    have B4 := Lib.hid (B3.out.trans b4)
    have r2 := cutA9 (HRW.out w4 B4.out) hnc (show k + (bs.length - k) ≤ bs.length by omega)
    rw [hA2, List.take_of_length_le (by simp)] at r2
    have R2 := Lib.hid r2
    clear t4 b4 T3 R1 r2
    go_wp2_with fail
    refine (two_feed T4.out A2 (bs.length - k) _ (bs.drop k) R2.out (by omega)).mono ?_
    rintro e w5 ⟨⟨v2, rfl⟩, t5, b5⟩
    rw [List.nil_append, List.take_append_drop] at t5
    have T5 := Lib.hid t5
    have B5 := Lib.hid (B4.out.trans b5)
    clear t5 b5 T4 R2
    go_wp2_with fail
    go_loopw [8] (fun i wr => ∃ j : Nat, j ≤ bs.length ∧ i = .int .i64 j ∧ Two W1 wr h2 (bs.take j) false 0 h1 bs false 0 ∧ Below W1.heap.size W1 wr) (fun i _ => bs.length - (intOf i).toNat)
    case atStart => exact ⟨0, by omega, rfl, T5.out.swap, B5.out⟩
    case round =>
      obtain ⟨j, hj, rfl, hf, hbel⟩ := hrel
      have HT := Lib.hid hf
      have HBL := Lib.hid hbel
      clear hf hbel
      by_cases hlt : j < bs.length
      · have r3 := cutA9 (HRW.out wr HBL.out) hnc (show j + 1 ≤ bs.length by omega)
        obtain ⟨A3, hA3⟩ : ∃ A3, (if c = j then A else Option.map (fun x => x.add j) A) = A3 := ⟨_, rfl⟩
        rw [hA3] at r3
        have htk : bs.take (j + 1) = bs.take j ++ (bs.drop j).take 1 := by rw [List.take_add]
        have R3 := Lib.hid r3
        have HTK := Lib.hid htk
        have e1 : j + 1 - j = 1 := by omega
        have hjc : (j : Int) + 1 ≤ c := by omega
        clear r3 htk
        go_wp2_with fail
        refine (two_feed HT.out A3 1 _ ((bs.drop j).take 1) R3.out (by omega)).mono ?_
        rw [← HTK.out]
        rintro e w8 ⟨⟨v5, rfl⟩, t8, b8⟩
        have T8 := Lib.hid t8
        have B8 := Lib.hid (HBL.out.trans b8)
        clear t8 b8
        go_wp2_with fail
        go_roundw
        case rel => exact ⟨j + 1, by omega, by go_num, T8.out, B8.out⟩
        case measure => simp [intOf]; omega
      · obtain rfl : j = bs.length := by omega
        have T9 : Hid (Two W1 wr h1 bs false 0 h2 bs false 0) := by have := HT.out.swap; rw [List.take_length] at this; exact this
        clear hlt HT
        go_wp2_with fail
        go_loopw [9] (fun i wr => (i = .int .i64 0 ∧ Two W1 wr h1 bs false 0 h2 bs false 0 ∧ Below W1.heap.size W1 wr) ∨ (i = .int .i64 1 ∧ Two W1 wr h2 bs false 0 h1 bs true m ∧ Below W1.heap.size W1 wr) ∨ (i = .int .i64 2 ∧ Below W1.heap.size W1 wr)) (fun i _ => 2 - (intOf i).toNat)
        case atStart => exact .inl ⟨rfl, T9.out, HBL.out⟩
        case round =>
          clear T9 HBL
          rcases hrel with ⟨rfl, hf, hbel⟩ | ⟨rfl, hf, hbel⟩ | ⟨rfl, hbel⟩
          case inl =>
            have HT := Lib.hid hf
            have HBL := Lib.hid hbel
            obtain ⟨n0, n1, n2, n3, n4⟩ := HBW.out _ hbel
            clear hf hbel
            go_upto_region 21 with fail
            go_cut [76] from 72 to 76 (fun s76 wx => s76 = .bool false ∧ Two W1 wx h1 bs true 0 h2 bs false 0 ∧ Below W1.heap.size W1 wx)
            case first =>
              go_region_with (first
                | (go_at_call 18; refine (HEN.out _ _ _ _ _ _ _ (HT.out.below (below_drewN (Below.refl _ _) 1))).mono ?_; rintro e wa ⟨rfl, ht, hb⟩; have TA := Lib.hid ht; have BA := Lib.hid ((below_drewN HBL.out 1).trans hb); obtain ⟨m0, m1, m2, m3, m4⟩ := HBW.out _ BA.out; clear ht hb)
                | (go_at_call 24; refine (HTE.out _).mono ?_; rintro e wb ⟨rfl, hb⟩; have TB := Lib.hid (TA.out.below hb); have BB := Lib.hid (BA.out.trans (hb.mono BA.out.size)); clear hb))
              all_goals
                go_wp2_with fail
                go_meet
                exact ⟨rfl, TB.out, BB.out⟩
            case rest =>
              obtain ⟨rfl, ht, hb⟩ := hcut
              have T0 := Lib.hid ht
              have B0 := Lib.hid hb
              clear ht hb HT HBL n0 n1 n2 n3 n4
              go_wp2_with fail
              go_loopw [11] (fun i wr => ∃ j : Nat, j ≤ m ∧ i = .int .i64 j ∧ Two W1 wr h1 bs true j h2 bs false 0 ∧ Below W1.heap.size W1 wr) (fun i _ => m - (intOf i).toNat)
              case atStart => exact ⟨0, Nat.zero_le _, rfl, T0.out, B0.out⟩
              case round =>
                clear T0 B0
                obtain ⟨j, hj, rfl, hf, hbel⟩ := hrel
                have HT := Lib.hid hf
                have HBL := Lib.hid hbel
                obtain ⟨n0, n1, n2, n3, n4⟩ := HBW.out _ hbel
                clear hf hbel
                by_cases hlt : j < m
                · obtain ⟨t, ht⟩ : ∃ t, o.toks[j]? = some t := ⟨_, List.getElem?_eq_getElem (by rw [HM.out]; exact hlt)⟩
                  have htm := HOT.out t (List.mem_of_getElem? ht)
                  obtain ⟨ka, kb, kc, kd, ke, hr⟩ := tok_cells (t := t)
                  have HS := Lib.hid (fun W => same_any t htm W)
                  rw [hr] at HS
                  obtain ⟨g2, d2, hv2, _, _⟩ := HOWN.out.form (by omega)
                  injection hv2 with hA2' _ hc2
                  subst hA2' hc2
                  have HC := Lib.hid (fun (W : World) (hW : Below W1.heap.size W1 W) => row5 (by have h := own_below9 HOWN.out hW; rw [← HM.out] at h; exact h) ht hr)
                  have HN := Lib.hid (HNX.out W1 _ _ _ _ _ _ _ HT.out t ht)
                  have t1' : decide ((j : Int) < (m : Int)) = true := decide_eq_true (by omega)
                  have hjI : (j : Int) < (m : Int) := by omega
                  have HLT := Lib.hid hlt
                  obtain ⟨ty, u, htv⟩ : ∃ ty u, tokV t = .iface ty u := by unfold tokV; cases t.k <;> exact ⟨_, _, rfl⟩
                  rw [htv] at HN HS
                  clear ht htm hr hlt hj htv
                  go_wp2_with fail
                  clear n0 n1 n2 n3 n4
                  refine HN.out.mono ?_
                  rintro e wa ⟨rfl, hf, hb⟩
                  have TA := Lib.hid hf
                  have BA := Lib.hid (HBL.out.trans hb)
                  obtain ⟨n0, n1, n2, n3, n4⟩ := HBW.out _ BA.out
                  obtain ⟨x0, x1, x2, x3, x4⟩ := HC.out _ BA.out
                  clear hf hb HN HT HBL
                  go_wp2_with fail
                  clear n0 n1 n2 n3 n4 x0 x1 x2 x3 x4
                  refine (HS.out _).mono ?_
                  rintro e wb ⟨rfl, hb⟩
                  have TB := Lib.hid (TA.out.below hb)
                  have BB := Lib.hid (BA.out.trans (hb.mono BA.out.size))
                  clear hb
                  go_wp2_with fail
                  go_roundw
                  case rel => exact ⟨j + 1, by have := HLT.out; omega, by go_num, TB.out, BB.out⟩
                  case measure => have := HLT.out; simp [intOf]; omega
                · obtain rfl : j = m := by omega
                  have t1' : decide ((j : Int) < (j : Int)) = false := decide_eq_false (by omega)
                  have HN := Lib.hid (HLA.out W1 _ _ _ _ _ _ _ HT.out (Nat.le_refl _))
                  clear hlt hj
                  go_wp2_with fail
                  clear n0 n1 n2 n3 n4
                  refine HN.out.mono ?_
                  rintro e wa ⟨rfl, rfl⟩
                  go_wp2_with fail
                  go_roundw
                  case rel => exact .inr (.inl ⟨by go_num, HT.out.swap, HBL.out⟩)
                  case measure => simp [intOf]
          case inr.inl =>
            have HT := Lib.hid hf
            have HBL := Lib.hid hbel
            obtain ⟨n0, n1, n2, n3, n4⟩ := HBW.out _ hbel
            clear hf hbel
            go_upto_region 21 with fail
            go_cut [76] from 72 to 76 (fun s76 wx => s76 = .bool false ∧ Two W1 wx h2 bs true 0 h1 bs true m ∧ Below W1.heap.size W1 wx)
            case first =>
              go_region_with (first
                | (go_at_call 18; refine (HEN.out _ _ _ _ _ _ _ (HT.out.below (below_drewN (Below.refl _ _) 1))).mono ?_; rintro e wa ⟨rfl, ht, hb⟩; have TA := Lib.hid ht; have BA := Lib.hid ((below_drewN HBL.out 1).trans hb); obtain ⟨m0, m1, m2, m3, m4⟩ := HBW.out _ BA.out; clear ht hb)
                | (go_at_call 24; refine (HTE.out _).mono ?_; rintro e wb ⟨rfl, hb⟩; have TB := Lib.hid (TA.out.below hb); have BB := Lib.hid (BA.out.trans (hb.mono BA.out.size)); clear hb))
              all_goals
                go_wp2_with fail
                go_meet
                exact ⟨rfl, TB.out, BB.out⟩
            case rest =>
              obtain ⟨rfl, ht, hb⟩ := hcut
              have T0 := Lib.hid ht
              have B0 := Lib.hid hb
              clear ht hb HT HBL n0 n1 n2 n3 n4
              go_wp2_with fail
              go_loopw [11] (fun i wr => ∃ j : Nat, j ≤ m ∧ i = .int .i64 j ∧ Two W1 wr h2 bs true j h1 bs true m ∧ Below W1.heap.size W1 wr) (fun i _ => m - (intOf i).toNat)
              case atStart => exact ⟨0, Nat.zero_le _, rfl, T0.out, B0.out⟩
              case round =>
                clear T0 B0
                obtain ⟨j, hj, rfl, hf, hbel⟩ := hrel
                have HT := Lib.hid hf
                have HBL := Lib.hid hbel
                obtain ⟨n0, n1, n2, n3, n4⟩ := HBW.out _ hbel
                clear hf hbel
                by_cases hlt : j < m
                · obtain ⟨t, ht⟩ : ∃ t, o.toks[j]? = some t := ⟨_, List.getElem?_eq_getElem (by rw [HM.out]; exact hlt)⟩
                  have htm := HOT.out t (List.mem_of_getElem? ht)
                  obtain ⟨ka, kb, kc, kd, ke, hr⟩ := tok_cells (t := t)
                  have HS := Lib.hid (fun W => same_any t htm W)
                  rw [hr] at HS
                  obtain ⟨g2, d2, hv2, _, _⟩ := HOWN.out.form (by omega)
                  injection hv2 with hA2' _ hc2
                  subst hA2' hc2
                  have HC := Lib.hid (fun (W : World) (hW : Below W1.heap.size W1 W) => row5 (by have h := own_below9 HOWN.out hW; rw [← HM.out] at h; exact h) ht hr)
                  have HN := Lib.hid (HNX.out W1 _ _ _ _ _ _ _ HT.out t ht)
                  have t1' : decide ((j : Int) < (m : Int)) = true := decide_eq_true (by omega)
                  have hjI : (j : Int) < (m : Int) := by omega
                  have HLT := Lib.hid hlt
                  obtain ⟨ty, u, htv⟩ : ∃ ty u, tokV t = .iface ty u := by unfold tokV; cases t.k <;> exact ⟨_, _, rfl⟩
                  rw [htv] at HN HS
                  clear ht htm hr hlt hj htv
                  go_wp2_with fail
                  clear n0 n1 n2 n3 n4
                  refine HN.out.mono ?_
                  rintro e wa ⟨rfl, hf, hb⟩
                  have TA := Lib.hid hf
                  have BA := Lib.hid (HBL.out.trans hb)
                  obtain ⟨n0, n1, n2, n3, n4⟩ := HBW.out _ BA.out
                  obtain ⟨x0, x1, x2, x3, x4⟩ := HC.out _ BA.out
                  clear hf hb HN HT HBL
                  go_wp2_with fail
                  clear n0 n1 n2 n3 n4 x0 x1 x2 x3 x4
                  refine (HS.out _).mono ?_
                  rintro e wb ⟨rfl, hb⟩
                  have TB := Lib.hid (TA.out.below hb)
                  have BB := Lib.hid (BA.out.trans (hb.mono BA.out.size))
                  clear hb
                  go_wp2_with fail
                  go_roundw
                  case rel => exact ⟨j + 1, by have := HLT.out; omega, by go_num, TB.out, BB.out⟩
                  case measure => have := HLT.out; simp [intOf]; omega
                · obtain rfl : j = m := by omega
                  have t1' : decide ((j : Int) < (j : Int)) = false := decide_eq_false (by omega)
                  have HN := Lib.hid (HLA.out W1 _ _ _ _ _ _ _ HT.out (Nat.le_refl _))
                  clear hlt hj
                  go_wp2_with fail
                  clear n0 n1 n2 n3 n4
                  refine HN.out.mono ?_
                  rintro e wa ⟨rfl, rfl⟩
                  go_wp2_with fail
                  go_roundw
                  case rel => exact .inr (.inr ⟨by go_num, HBL.out⟩)
                  case measure => simp [intOf]
          case inr.inr =>
            have HBL := Lib.hid hbel
            clear hbel
            go_wp2_with fail
            go_ret
            exact ⟨rfl, B1.out.trans (HBL.out.mono hsW)⟩
theorem walk (a0 : Option Addr) (len0 cap0 : Nat) (z0 : List Int) (a1 : Int) (w : World) (w0 : IsRow .u8 w a0 len0 cap0 z0) (s0 : cap0 ≤ 140737488351232) (w1 : (Lit.int .i64 a1).wf = true) :
    Calls Tryz.prog 6 #[.slice a0 len0 cap0, .int .i64 a1] w fun e w' => e = .returned (.bool true) ∧ Below w.heap.size w w' := by
  obtain ⟨hRB, hlc, hcm⟩ := RB.of_row w0
  clear w0 w1
  by_cases hbig : 2147483647 < len0
  · have HB := Lib.hid (fun W => beyond_any len0 W (by omega))
    rw [show decide (2147483647 < len0) = true by simpa using hbig] at HB
    clear hRB hbig hcm
    go_enter Tryz.func6, Tryz.ntmps6
    go_wp2_with fail
    refine (HB.out _).mono ?_
    rintro e w' ⟨rfl, rfl⟩
    go_wp2_with fail
    go_ret
    exact ⟨rfl, Below.refl _ _⟩
  by_cases h1 : a1 < 0
  · exact core len0 cap0 a0 a1 (len0 / 2) _ w hRB (by omega) hlc (by omega) (by omega) (.inl ⟨h1, by omega⟩)
  by_cases h2 : (len0 : Int) < a1
  · exact core len0 cap0 a0 a1 (len0 / 2) _ w hRB (by omega) hlc (by omega) (by omega) (.inr (.inl ⟨by omega, h2, by omega⟩))
  · exact core len0 cap0 a0 a1 a1.toNat _ w hRB (by omega) hlc (by omega) (by omega) (.inr (.inr ⟨by omega, by omega, by omega⟩))
end Go.Proofs.YtgmholdkdppbmaaGreatDoor.lexPieces
