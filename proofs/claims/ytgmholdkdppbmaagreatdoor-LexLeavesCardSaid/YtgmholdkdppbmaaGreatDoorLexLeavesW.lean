/- LexLeaves: the walk. -/
import Derived.Test.YtgmholdkdppbmaaGreatDoorLexRAH
import Derived.Test.YtgmholdkdppbmaaGreatDoorLexRAL
import Derived.Test.YtgmholdkdppbmaaGreatDoorRows
namespace Go.Proofs.YtgmholdkdppbmaaGreatDoor.lexLeaves
open Go.RowKit Go.Proofs.YtgmholdkdppbmaaGreatDoor.Lx
set_option linter.unusedSimpArgs false
set_option linter.unusedVariables false
/-- What is known of a slice of integers that came in. -/
def IsRow (k : IntKind) (w : World) (a : Option Addr) (len cap : Nat) (zs : List Int) : Prop :=
  (a = none ∧ len = 0 ∧ cap = 0 ∧ zs = []) ∨
  ∃ x, a = some x ∧ len ≤ cap ∧ cap ≤ maxLen ∧ zs.length = cap ∧ (∀ i, i < zs.length → w.cell? (x.add i) = some (.int k (zs.getD i 0))) ∧ ∀ n ∈ zs, (Lit.int k n).wf = true
attribute [local go_sem] SGives_value SGives_skip SGives_enter
theorem tok_kind (t : Tok) : ∃ (q : Int) (b c d e : Value), tokR t = [.int .i64 q, b, c, d, e] ∧ (q == 1) = !leafB t := by
  obtain ⟨p, z, k⟩ := t
  cases k with
  | mark c => exact ⟨1, _, _, _, _, rfl, rfl⟩
  | term l => exact ⟨2, _, _, _, _, rfl, rfl⟩
  | num b => exact ⟨3, _, _, _, _, rfl, rfl⟩
  | str l => exact ⟨4, _, _, _, _, rfl, rfl⟩
theorem leaf_at {l : List Tok} {i : Nat} {t : Tok} (h : l[i]? = some t) (hl : leafB t = true) : (leavesL l)[(leavesL (l.take i)).length]? = some t := by
  have hi : i < l.length := (List.getElem?_eq_some_iff.1 h).1
  have e : l = l.take i ++ t :: l.drop (i + 1) := by
    have h1 := List.drop_eq_getElem_cons hi
    rw [(List.getElem?_eq_some_iff.1 h).2] at h1
    rw [← h1, List.take_append_drop]
  have e2 : leavesL l = leavesL (l.take i) ++ t :: leavesL (l.drop (i + 1)) := by
    unfold leavesL
    conv => lhs; rw [e]
    rw [List.filter_append, List.filter_cons, if_pos hl]
  rw [e2, List.getElem?_append_right (Nat.le_refl _), Nat.sub_self]
  rfl
set_option maxRecDepth 100000 in
set_option maxHeartbeats 4000000 in
theorem walk (a0 : Option Addr) (len0 cap0 : Nat) (z0 : List Int) (w : World) (w0 : IsRow .u8 w a0 len0 cap0 z0) (s0 : cap0 ≤ 140737488351232) :
    Calls Tryz.prog 9 #[.slice a0 len0 cap0] w fun e w' => e = .returned (.bool true) ∧ Below w.heap.size w w' := by
  obtain ⟨hRB, hlc, hcm⟩ := RB.of_row w0
  clear w0 hcm
  generalize hbs : ((z0.take len0).map fun z => UInt8.ofNat z.toNat) = bs at hRB
  clear hbs
  have hbl := hRB.1
  subst hbl
  have HR := Lib.hid hRB
  clear hRB
  have HB := Lib.hid (fun W => beyond_any bs.length W (by omega))
  by_cases hbig : 2147483647 < bs.length
  · rw [show decide (2147483647 < bs.length) = true by simpa using hbig] at HB
    clear hbig
    go_enter Tryz.func9, Tryz.ntmps9
    go_wp2_with fail
    refine (HB.out _).mono ?_
    rintro e w' ⟨rfl, rfl⟩
    go_wp2_with fail
    go_ret
    exact ⟨rfl, Below.refl _ _⟩
  rw [show decide (2147483647 < bs.length) = false by simpa using hbig] at HB
  have hn : bs.length ≤ 2147483647 := by omega
  clear hbig
  have HRD := Lib.hid (fun W => rRead_any bs true W (by omega))
  have k0 := str_of_RB HR.out cap0
  obtain ⟨o, ho⟩ : ∃ o, refO bs true = o := ⟨_, rfl⟩
  have hol := refO_len bs true
  have hot := refO_term bs true
  rw [ho] at HRD hol hot
  have HO := Lib.hid ho
  have HOL := Lib.hid hol
  have HOT := Lib.hid hot
  clear ho hol hot
  unfold OtE at HRD
  go_enter Tryz.func9, Tryz.ntmps9
  go_wp2_with fail
  refine (HB.out _).mono ?_
  rintro e w' ⟨rfl, rfl⟩
  go_wp2_with fail
  refine (HRD.out _).mono ?_
  rintro e w1 ⟨v, rfl, hown, b1⟩
  clear k0
  obtain ⟨A, c, rfl, _⟩ := own_shape9 hown
  have HOWN := Lib.hid (hown.alloc (.cells #[.slice A o.toks.length c, .int .i64 (o.no : Nat), .int .i64 (o.pos : Nat), .int .i64 (o.found : Nat), .int .i64 (o.held : Nat)] 32))
  have HBK := Lib.hid (Blk.new w1 32 #[.slice A o.toks.length c, .int .i64 (o.no : Nat), .int .i64 (o.pos : Nat), .int .i64 (o.found : Nat), .int .i64 (o.held : Nat)])
  have B1 := Lib.hid (b1.alloc b1.size (.cells #[.slice A o.toks.length c, .int .i64 (o.no : Nat), .int .i64 (o.pos : Nat), .int .i64 (o.found : Nat), .int .i64 (o.held : Nat)] 32))
  have hs1 := b1.size
  clear hown b1
  go_wp2_with fail
  generalize w1.alloc (.cells #[.slice A o.toks.length c, .int .i64 (o.no : Nat), .int .i64 (o.pos : Nat), .int .i64 (o.found : Nat), .int .i64 (o.held : Nat)] 32) = W1 at *
  have hsW := B1.out.size
  refine (leaves_any a0 bs.length cap0 w.heap.size bs W1 (HR.out.below B1.out) hsW (by omega)).mono ?_
  rintro e w3 ⟨b3, hok, hbad⟩
  rw [HO.out] at hok hbad
  have B3 := Lib.hid (keepb B1.out b3)
  have HOWN3 := Lib.hid (own_below9 HOWN.out b3)
  have HBK3 := Lib.hid (HBK.out.below b3 HBK.out.lt)
  clear b3
  have HTE := Lib.hid (fun W => tells_any (.slice A o.toks.length c) o.no o.pos o.found o.held W ⟨_, _, _, rfl⟩)
  by_cases h0 : o.no = 0
  · obtain ⟨v, rfl, hrow⟩ := hok h0
    obtain ⟨A1, c1, rfl, _⟩ := hrow.shape
    have e0 : ((o.no : Int) != 0) = false := by simp; omega
    have HRW := Lib.hid hrow
    have HEV : Hid (errV o.no o.pos = .nilIface) := Lib.hid (by unfold errV; rw [if_pos h0])
    rw [HEV.out] at HTE
    clear hok hbad hrow h0
    obtain ⟨n0, n1, n2, n3, n4⟩ := cells5 HBK3.out
    go_wp2_with fail
    clear n0 n1 n2 n3 n4
    refine (HTE.out _).mono ?_
    rintro e w5 ⟨rfl, b5⟩
    have B5 := Lib.hid (keepb B3.out b5)
    have HOWN5 := Lib.hid (own_below9 HOWN3.out b5)
    have HBK5 := Lib.hid (HBK3.out.below b5 HBK3.out.lt)
    have HRW5 := Lib.hid (HRW.out.below b5)
    clear b5
    obtain ⟨m, hm⟩ : ∃ m, o.toks.length = m := ⟨_, rfl⟩
    have HM := Lib.hid hm
    have hmb : (m : Int) ≤ 2147483647 := by have := HOL.out; omega
    have hLl : (leavesL o.toks).length ≤ m := by rw [← hm]; exact List.length_filter_le _ _
    obtain ⟨K, hK⟩ : ∃ K, (leavesL o.toks).length = K := ⟨_, rfl⟩
    have HK := Lib.hid hK
    rw [hm] at HOWN5 HBK5
    rw [hK] at HRW5 hLl
    rw [hm, hK]
    clear hm hK
    obtain ⟨n0, n1, n2, n3, n4⟩ := cells5 HBK5.out
    go_wp2_with fail
    clear n0 n1 n2 n3 n4
    obtain ⟨wq, hwq⟩ : ∃ wq : World, wq = w5 := ⟨_, rfl⟩
    subst hwq
    go_loopw [6, 7] (fun k i wr => ∃ (j x : Nat), i = .int .i64 (j : Nat) ∧ k = .int .i64 (x : Nat) ∧ j ≤ m ∧ x = (leavesL (o.toks.take j)).length ∧ Below wq.heap.size wq wr) (fun _ i _ => m - (intOf i).toNat)
    case atStart => exact ⟨0, 0, rfl, rfl, by omega, rfl, Below.refl _ _⟩
    case round =>
      obtain ⟨j, x, rfl, rfl, hj, hx, hbe⟩ := hrel
      have HBE := Lib.hid hbe
      have HX := Lib.hid hx
      have hxj : x ≤ j := by
        have h1 := List.length_filter_le leafB (o.toks.take j)
        rw [List.length_take] at h1
        rw [hx]; unfold leavesL; omega
      clear hx
      have hbk := HBK5.out.below hbe HBK5.out.lt
      obtain ⟨n0, n1, n2, n3, n4⟩ := cells5 hbk
      clear hbe
      rcases Nat.lt_or_ge j m with hlt | hge
      · have hjl : j < o.toks.length := by rw [HM.out]; exact hlt
        obtain ⟨t, ht⟩ : ∃ t, o.toks[j]? = some t := ⟨_, List.getElem?_eq_getElem hjl⟩
        have htm := HOT.out t (List.mem_of_getElem? ht)
        obtain ⟨q, b, d, f, g, hr, hq⟩ := tok_kind t
        have HS := Lib.hid (fun W => same_any t htm W)
        rw [hr] at HS
        obtain ⟨g2, d2, hv2, _, _⟩ := HOWN5.out.form (by omega)
        injection hv2 with hA2 _ hc2
        subst hA2 hc2
        have HC := Lib.hid (fun (W : World) (hW : Below wq.heap.size wq W) => row5 (by have h := own_below9 HOWN5.out hW; rw [← HM.out] at h; exact h) ht hr)
        have HBK6 := Lib.hid (fun (W : World) (hW : Below wq.heap.size wq W) => cells5 (HBK5.out.below hW HBK5.out.lt))
        have t1 : decide ((j : Int) < (m : Int)) = true := decide_eq_true (by omega)
        have t1' : decide (j < m) = true := decide_eq_true hlt
        have hjI : (j : Int) < (m : Int) := by omega
        have htk : o.toks.take (j + 1) = o.toks.take j ++ [t] := by rw [List.take_add_one, ht]; rfl
        have HLT := Lib.hid hlt
        obtain ⟨x0, x1, x2, x3, x4⟩ := HC.out wr HBE.out
        cases hlf : leafB t with
        | false =>
          rw [hlf] at hq
          have hq1 : (q == 1) = true := hq
          have HL2 : Hid ((leavesL (o.toks.take (j + 1))).length = (leavesL (o.toks.take j)).length) := Lib.hid (by rw [htk]; unfold leavesL; rw [List.filter_append]; simp [hlf])
          clear ht htm hr hq hlt hj htk hlf hjl
          go_wp2_with fail
          go_roundw
          case rel => exact ⟨j + 1, x, by go_num, rfl, by have := HLT.out; omega, by rw [HL2.out]; exact HX.out, HBE.out⟩
          case measure => have := HLT.out; simp [intOf]; omega
        | true =>
          rw [hlf] at hq
          have hq1 : (q == 1) = false := hq
          have HL2 : Hid ((leavesL (o.toks.take (j + 1))).length = (leavesL (o.toks.take j)).length + 1) := Lib.hid (by rw [htk]; unfold leavesL; rw [List.filter_append]; simp [hlf])
          have hat := leaf_at ht hlf
          rw [← HX.out] at hat
          have hxK : x < K := by have := (List.getElem?_eq_some_iff.1 hat).1; have := HK.out; omega
          obtain ⟨g1, d1, hv1, _, _⟩ := HRW5.out.own.form (by omega)
          injection hv1 with hA1 _ hc1
          subst hA1 hc1
          have HC1 : Hid (∀ (W : World) (hW : Below wq.heap.size wq W), W.cell? ⟨g1, x, none⟩ = some (tokV t)) := Lib.hid (fun W hW => by
            have h := own_below9 HRW5.out.own hW
            rw [h.cellAt x (by omega), List.getElem?_map, hat]; rfl)
          have t2 : decide ((K : Int) ≤ (x : Int)) = false := decide_eq_false (by omega)
          have t2' : decide (K ≤ x) = false := decide_eq_false (by omega)
          have hxI : (x : Int) < (K : Int) := by omega
          have hxb : (x : Int) ≤ 2147483647 := by omega
          generalize tokV t = tv at *
          clear ht htm hr hq hlt hj htk hlf hat hjl hxj
          go_wp2_with fail
          obtain ⟨S, SD⟩ : ∃ S : World → Prop, Go.RowKit.Hid (∀ w' : World, S w' ↔ Below wq.heap.size wq w') := ⟨_, Lib.hid (fun _ => Iff.rfl)⟩
          refine wp_region_sure (S := S) (by kernel_rfl) (by kernel_rfl) ((SD.out _).2 HBE.out.drew) ?_
          clear n0 n1 n2 n3 n4 x0 x1 x2 x3 x4
          repeat
            (first
              | (refine SureL.no (by rfl) ?_; simp only [Act.put, List.setIfInBounds_toArray, List.set_cons_zero, List.set_cons_succ])
              | (refine' SureL.yes (by rfl) (fun wS hS => ?_) ?_
                 rotate_left
                 · have hS' := (SD.out _).1 hS
                   obtain ⟨x0, x1, x2, x3, x4⟩ := HC.out wS hS'
                   obtain ⟨n0, n1, n2, n3, n4⟩ := HBK6.out wS hS'
                   have y0 := HC1.out wS hS'
                   go_simp
                   first
                     | exact ⟨rfl, hS⟩
                     | (go_at_call 25; refine (HS.out _).mono ?_; rintro e w' ⟨rfl, hb⟩; exact ⟨rfl, (SD.out _).2 (keepb hS' hb)⟩)
                 simp only [Act.put, List.setIfInBounds_toArray, List.set_cons_zero, List.set_cons_succ]))
          refine SureL.nil ?_
          intro wE hE
          have HBB := Lib.hid ((SD.out _).1 hE)
          clear hE SD
          go_wp2_with fail
          go_roundw
          case rel => exact ⟨j + 1, x + 1, by go_num, by go_num, by have := HLT.out; omega, by rw [HL2.out]; have := HX.out; omega, HBB.out⟩
          case measure => have := HLT.out; simp [intOf]; omega
      · have hjm : j = m := by omega
        subst hjm
        have hxK : x = K := by rw [HX.out, ← HK.out, List.take_of_length_le (by rw [HM.out]; exact Nat.le_refl _)]
        subst hxK
        have t1 : decide ((j : Int) < (j : Int)) = false := by simp
        have t2 : ((x : Int) == (x : Int)) = true := by simp
        go_wp2_with fail
        go_ret
        exact ⟨rfl, keepb B5.out HBE.out⟩
  · obtain rfl := hbad h0
    have e0 : ((o.no : Int) != 0) = true := by simp; omega
    have HEV : Hid (errV o.no o.pos = spotE (o.no : Nat) (o.pos : Nat)) := Lib.hid (by unfold errV; rw [if_neg h0])
    rw [HEV.out] at HTE
    clear hok hbad h0
    obtain ⟨n0, n1, n2, n3, n4⟩ := cells5 HBK3.out
    go_wp2_with fail
    clear n0 n1 n2 n3 n4
    refine (HTE.out _).mono ?_
    rintro e w5 ⟨rfl, b5⟩
    have B5 := Lib.hid (keepb B3.out b5)
    have HBK5 := Lib.hid (HBK3.out.below b5 HBK3.out.lt)
    clear b5
    obtain ⟨n0, n1, n2, n3, n4⟩ := cells5 HBK5.out
    go_wp2_with fail
    go_ret
    exact ⟨rfl, B5.out⟩
end Go.Proofs.YtgmholdkdppbmaaGreatDoor.lexLeaves
