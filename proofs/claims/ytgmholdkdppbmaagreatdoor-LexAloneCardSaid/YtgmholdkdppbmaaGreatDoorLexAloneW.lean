/- LexAlone: the walk. -/
import Derived.Test.YtgmholdkdppbmaaGreatDoorLexRAE
import Derived.Test.YtgmholdkdppbmaaGreatDoorLexRAK
import Derived.Test.YtgmholdkdppbmaaGreatDoorLexRAL
import Derived.Test.YtgmholdkdppbmaaGreatDoorRows
namespace Go.Proofs.YtgmholdkdppbmaaGreatDoor.lexAlone
open Go.RowKit Go.Proofs.YtgmholdkdppbmaaGreatDoor.Lx
set_option linter.unusedSimpArgs false
set_option linter.unusedVariables false
/-- What is known of a slice of integers that came in. -/
def IsRow (k : IntKind) (w : World) (a : Option Addr) (len cap : Nat) (zs : List Int) : Prop :=
  (a = none ∧ len = 0 ∧ cap = 0 ∧ zs = []) ∨
  ∃ x, a = some x ∧ len ≤ cap ∧ cap ≤ maxLen ∧ zs.length = cap ∧ (∀ i, i < zs.length → w.cell? (x.add i) = some (.int k (zs.getD i 0))) ∧ ∀ n ∈ zs, (Lit.int k n).wf = true
attribute [local go_sem] SGives_value SGives_skip SGives_enter CGives_value CGives_skip CGives_enter
set_option maxRecDepth 100000 in
set_option maxHeartbeats 4000000 in
theorem walk (a0 : Option Addr) (len0 cap0 : Nat) (z0 : List Int) (w : World) (w0 : IsRow .u8 w a0 len0 cap0 z0) (s0 : cap0 ≤ 140737488351232) :
    Calls Tryz.prog 3 #[.slice a0 len0 cap0] w fun e w' => e = .returned (.bool true) ∧ Below w.heap.size w w' := by
  obtain ⟨hRB, hlc, hcm⟩ := RB.of_row w0
  clear w0 hcm
  generalize hbs : ((z0.take len0).map fun z => UInt8.ofNat z.toNat) = bs at hRB
  clear hbs
  have hbl := hRB.1
  subst hbl
  have HR := Lib.hid hRB
  clear hRB
  have HB := Lib.hid (fun W => beyond_any bs.length W (by omega))
  by_cases hbig : 2147483647 < bs.length
  · rw [show decide (2147483647 < bs.length) = true by simpa using hbig] at HB
    clear hbig
    go_enter Tryz.func3, Tryz.ntmps3
    go_wp2_with fail
    refine (HB.out _).mono ?_
    rintro e w' ⟨rfl, rfl⟩
    go_wp2_with fail
    go_ret
    exact ⟨rfl, Below.refl _ _⟩
  rw [show decide (2147483647 < bs.length) = false by simpa using hbig] at HB
  have hn : bs.length ≤ 2147483647 := by omega
  clear hbig
  have HRD := Lib.hid (fun W => rRead_any bs true W (by omega))
  obtain ⟨o, ho⟩ : ∃ o, refO bs true = o := ⟨_, rfl⟩
  have hol := refO_len bs true
  have hal := @alone_refO bs
  rw [ho] at HRD hol hal
  have HO := Lib.hid ho
  have HOL := Lib.hid hol
  have HA := Lib.hid hal
  clear ho hol hal
  unfold OtE at HRD
  go_enter Tryz.func3, Tryz.ntmps3
  go_wp2_with fail
  refine (HB.out _).mono ?_
  rintro e w' ⟨rfl, rfl⟩
  go_wp2_with fail
  refine (row_any a0 bs.length cap0 w.heap.size bs w HR.out (Nat.le_refl _) (by omega)).mono ?_
  rintro e w1 ⟨b1, hok1, hbad1⟩
  rw [HO.out] at hok1 hbad1
  have B1 := Lib.hid b1
  have hs1 := b1.size
  clear b1
  by_cases h1 : o.no = 0
  · obtain ⟨v1, rfl, hrow1⟩ := hok1 h1
    obtain ⟨A1, c1, rfl, _⟩ := own_shape9 hrow1
    have H1 := Lib.hid hrow1
    obtain ⟨hlen, hrise, halone⟩ := HA.out h1
    have HRI := Lib.hid hrise
    have HAL := Lib.hid halone
    clear hok1 hbad1 hrow1 h1 hrise halone HA HRD
    obtain ⟨n1, hn1e⟩ : ∃ n, o.toks.length = n := ⟨_, rfl⟩
    have HN1 := Lib.hid hn1e
    have hn1 : n1 ≤ 1000000000000 := by have := HOL.out; omega
    rw [hn1e]
    clear hn1e
    have hn1I : (n1 : Int) ≤ 1000000000000 := by omega
    go_wp2_with fail
    go_loopw [5, 6] (fun x i wr => ∃ a k : Nat, x = .int .i64 (a : Nat) ∧ i = .int .i64 (k : Nat) ∧ k ≤ n1 ∧ a ≤ bs.length ∧ Rise bs a (o.toks.drop k) ∧ Below w.heap.size w wr ∧ Below w1.heap.size w1 wr) (fun _ i _ => n1 - (intOf i).toNat)
    case atStart => exact ⟨0, 0, rfl, rfl, by omega, by omega, HRI.out, B1.out, Below.refl _ _⟩
    case round =>
      obtain ⟨a, k, rfl, rfl, hk, ha, hri, hbe, hbe2⟩ := hrel
      have HBE := Lib.hid hbe
      have HBE2 := Lib.hid hbe2
      clear hbe hbe2
      have t0 : decide ((k : Int) ≤ (n1 : Int)) = true := decide_eq_true (by omega)
      have t0' : decide (k ≤ n1) = true := decide_eq_true hk
      rcases Nat.lt_or_ge k n1 with hlt | hge
      · have HLT := Lib.hid hlt
        have t1 : decide ((k : Int) < (n1 : Int)) = true := decide_eq_true (by omega)
        have t1' : decide (k < n1) = true := decide_eq_true hlt
        have t2 : ((k : Int) == (n1 : Int)) = false := by simp; omega
        have t2' : (k == n1) = false := by simp; omega
        obtain ⟨t, ht⟩ : ∃ t, o.toks[k]? = some t := ⟨_, List.getElem?_eq_getElem (by rw [HN1.out]; exact hlt)⟩
        have hdr : o.toks.drop k = t :: o.toks.drop (k + 1) := by
          obtain ⟨hkl, hkt⟩ := List.getElem?_eq_some_iff.1 ht
          rw [List.drop_eq_getElem_cons hkl, hkt]
        rw [hdr] at hri
        obtain ⟨hap, hpl, hzp, hbk, hri2⟩ := hri
        have HBK := Lib.hid hbk
        have HR2 := Lib.hid hri2
        have HSUB := Lib.hid (HAL.out t (List.mem_of_getElem? ht))
        obtain ⟨g1, d1, hv1, _, _⟩ := H1.out.form (by rw [HN1.out]; omega)
        injection hv1 with hA1 _ hc1
        subst hA1 hc1
        have HC1 : Hid (∀ (W : World) (hW : Below w1.heap.size w1 W), W.cell? ⟨g1, k, none⟩ = some (tokV t)) := Lib.hid (fun W hW => by
          have h := own_below9 H1.out hW
          rw [h.cellAt k (by rw [HN1.out]; omega), List.getElem?_map, ht]; rfl)
        obtain ⟨tx, tv, htv, hPt, hWt⟩ := tok_face t
        rw [htv] at HC1
        have HPT := Lib.hid hPt
        have HWT := Lib.hid hWt
        have HTV := Lib.hid htv
        have HKE := Lib.hid (fun W => alike_any t ⟨0, t.size, t.k⟩ W)
        rw [alike_self t 0 t.size] at HKE
        clear ht hdr hbk hri2 htv hPt hWt
        have hkI : (k : Int) < (n1 : Int) := by omega
        generalize hpe : t.pos = p at *
        generalize hze : t.size = z at *
        clear hpe hze
        have hapI : (a : Int) ≤ (p : Int) := by omega
        have hplI : (p : Int) + (z : Int) ≤ (bs.length : Int) := by omega
        have e1 : decide ((p : Int) < (a : Int)) = false := decide_eq_false (by omega)
        have e1' : decide (p < a) = false := decide_eq_false (by omega)
        have e2 : decide ((bs.length : Int) < (p : Int)) = false := decide_eq_false (by omega)
        have e2' : decide (bs.length < p) = false := decide_eq_false (by omega)
        have y0 := HC1.out wr HBE2.out
        have hPt := HPT.out
        clear hlt
        go_wp2_with fail
        clear y0
        refine (span_place _ _ _).mono ?_
        rintro e wa ⟨rfl, hba⟩
        have BA := Lib.hid (keepb HBE.out hba)
        have BA2 := Lib.hid (keepb HBE2.out hba)
        clear hba HBE HBE2 hPt
        go_wp2_with fail
        go_loopw [5] (fun x wx => ∃ j : Nat, x = .int .i64 (j : Nat) ∧ a ≤ j ∧ j ≤ p ∧ Below w.heap.size w wx ∧ Below w1.heap.size w1 wx) (fun x _ => p - (intOf x).toNat)
        case atStart => exact ⟨a, rfl, Nat.le_refl _, hap, BA.out, BA2.out⟩
        case round =>
          clear BA BA2
          obtain ⟨j, rfl, hj1, hj2, hbe, hbe2⟩ := hrel
          have HBE := Lib.hid hbe
          have HBE2 := Lib.hid hbe2
          clear hbe hbe2
          rcases Nat.lt_or_ge j p with hjt | hjt
          · have hjb : j < bs.length := by omega
            obtain ⟨g0, o0, hA0, hg0, hc0⟩ := (HR.out.below HBE.out).2 (by omega)
            have y0 := hc0 j hjb
            have hbl := HBK.out j hj1 hjt
            have hgd : bs.getD j 0 = bs[j] := by simp [List.getD, hjb]
            rw [hgd] at hbl
            have HBL := Lib.hid (fun W => rblank_any bs[j] W)
            rw [hbl] at HBL
            have s1 : decide ((j : Int) < (p : Int)) = true := decide_eq_true (by omega)
            have s1' : decide (j < p) = true := decide_eq_true hjt
            have hjI : (j : Int) < (bs.length : Int) := by omega
            clear hc0 hbl hgd
            obtain ⟨c, hc⟩ : ∃ c, bs[j] = c := ⟨_, rfl⟩
            rw [hc] at y0 HBL
            unfold bv at y0
            subst hA0
            clear hc
            go_wp2_with fail
            refine (HBL.out _).mono ?_
            rintro e wz ⟨rfl, rfl⟩
            go_wp2_with fail
            go_roundw
            case rel => exact ⟨j + 1, by go_num, by omega, by omega, HBE.out, HBE2.out⟩
            case measure => simp [intOf]; omega
          · obtain rfl : j = p := by omega
            have y0 := HC1.out wr HBE2.out
            have hWt := HWT.out
            have s1 : decide ((j : Int) < (j : Int)) = false := decide_eq_false (by omega)
            clear hjt hj1 hj2
            go_wp2_with fail
            clear y0
            refine (span_width _ _ _).mono ?_
            rintro e wb ⟨rfl, hbb⟩
            have BB := Lib.hid (keepb HBE.out hbb)
            have BB2 := Lib.hid (keepb HBE2.out hbb)
            clear hbb HBE HBE2 hWt
            have r3 := cutA9 (HR.out.below BB.out) hlc (show j + z ≤ bs.length by omega)
            obtain ⟨A3, hA3⟩ : ∃ A3, (if cap0 = j then a0 else Option.map (fun x => x.add j) a0) = A3 := ⟨_, rfl⟩
            rw [hA3] at r3
            have R3 := Lib.hid r3
            have hsub : j + z - j = z := by omega
            have q1 : decide ((z : Int) < 1) = false := decide_eq_false (by omega)
            have q1' : decide (z < 1) = false := decide_eq_false (by omega)
            have q2 : decide ((bs.length : Int) < (j : Int) + (z : Int)) = false := decide_eq_false (by omega)
            have hjc : (j : Int) + (z : Int) ≤ (cap0 : Int) := by omega
            have hjz : (0 : Int) ≤ (j : Int) + (z : Int) := by omega
            clear r3
            go_wp2_with fail
            refine (row_any A3 z _ w.heap.size ((bs.drop j).take z) wb R3.out BB.out.size (by omega)).mono ?_
            rintro e w2 ⟨b2, hok2, _⟩
            rw [HSUB.out] at hok2
            obtain ⟨v2, rfl, hrow2⟩ := hok2 rfl
            simp only [List.length_cons, List.length_nil, List.map_cons, List.map_nil] at hrow2
            obtain ⟨A2, c2, rfl, _⟩ := own_shape9 hrow2
            have H2 := Lib.hid hrow2
            have BC := Lib.hid (keepb BB.out b2)
            have BC2 := Lib.hid (keepb BB2.out b2)
            obtain ⟨g2, d2, hv2, _, _⟩ := H2.out.form (by omega)
            injection hv2 with hA2 _ hc2
            subst hA2 hc2
            have HC2 : Hid (∀ (W : World) (hW : Below w2.heap.size w2 W), W.cell? ⟨g2, 0, none⟩ = some (tokV ⟨0, z, t.k⟩)) := Lib.hid (fun W hW => by
              have h := own_below9 H2.out hW
              rw [h.cellAt 0 (by omega)]; rfl)
            obtain ⟨ux, uv, huv, hPu, hWu⟩ := tok_face ⟨0, z, t.k⟩
            rw [HTV.out, huv] at HKE
            rw [huv] at HC2
            have HPU := Lib.hid hPu
            have HWU := Lib.hid hWu
            clear hok2 hrow2 b2 huv hPu hWu BB BB2
            go_wp2_with fail
            obtain ⟨S, SD⟩ : ∃ S : World → Prop, Go.RowKit.Hid (∀ w' : World, S w' ↔ (Below w.heap.size w w' ∧ Below w1.heap.size w1 w' ∧ Below w2.heap.size w2 w')) := ⟨_, Lib.hid (fun _ => Iff.rfl)⟩
            refine wp_region_sure (S := S) (by kernel_rfl) (by kernel_rfl) ((SD.out _).2 (⟨BC.out.drew, BC2.out.drew, (Below.refl _ _).drew⟩)) ?_
            repeat
              (first
                | (refine SureL.no (by rfl) ?_; simp only [Act.put, List.setIfInBounds_toArray, List.set_cons_zero, List.set_cons_succ])
                | (refine' SureL.yes (by rfl) (fun wS hS => ?_) ?_
                   rotate_left
                   · have hS' := (SD.out _).1 hS
                     have y0 := HC1.out wS hS'.2.1; have y1 := HC2.out wS hS'.2.2; have hPt := HPT.out; have hPu := HPU.out; have hWt := HWT.out; have hWu := HWU.out
                     go_simp
                     first
                       | exact ⟨rfl, hS⟩
                       | (refine (HKE.out _).mono ?_; rintro e w' ⟨rfl, hb⟩; exact ⟨rfl, (SD.out _).2 ⟨keepb hS'.1 hb, keepb hS'.2.1 hb, keepb hS'.2.2 hb⟩⟩)
                       | (refine (span_place _ _ _).mono ?_; rintro e w' ⟨rfl, hb⟩; exact ⟨rfl, (SD.out _).2 ⟨keepb hS'.1 hb, keepb hS'.2.1 hb, keepb hS'.2.2 hb⟩⟩)
                       | (refine (span_width _ _ _).mono ?_; rintro e w' ⟨rfl, hb⟩; exact ⟨rfl, (SD.out _).2 ⟨keepb hS'.1 hb, keepb hS'.2.1 hb, keepb hS'.2.2 hb⟩⟩)
                   simp only [Act.put, List.setIfInBounds_toArray, List.set_cons_zero, List.set_cons_succ]))
            refine SureL.nil ?_
            intro wE hE
            have HBB := Lib.hid ((SD.out _).1 hE)
            clear hE SD
            go_wp2_with fail
            go_roundw
            case rel => exact ⟨j + z, k + 1, by go_num, by go_num, by have := HLT.out; omega, by omega, HR2.out, HBB.out.1, HBB.out.2.1⟩
            case measure => have := HLT.out; simp [intOf]; omega
      · obtain rfl : k = n1 := by omega
        have t1 : decide ((k : Int) < (k : Int)) = false := decide_eq_false (by omega)
        have t2 : ((k : Int) == (k : Int)) = true := by simp
        have hdr : o.toks.drop k = [] := List.drop_eq_nil_of_le (by rw [HN1.out]; exact Nat.le_refl _)
        rw [hdr] at hri
        have HBK := Lib.hid hri
        have haI : (a : Int) ≤ (bs.length : Int) := by omega
        have e1 : decide ((bs.length : Int) < (a : Int)) = false := decide_eq_false (by omega)
        have e1' : decide (bs.length < a) = false := decide_eq_false (by omega)
        have e2 : decide ((bs.length : Int) < (bs.length : Int)) = false := decide_eq_false (by omega)
        clear hdr hri hge
        go_wp2_with fail
        go_loopw [5] (fun x wx => ∃ j : Nat, x = .int .i64 (j : Nat) ∧ a ≤ j ∧ j ≤ bs.length ∧ Below w.heap.size w wx ∧ Below w1.heap.size w1 wx) (fun x _ => bs.length - (intOf x).toNat)
        case atStart => exact ⟨a, rfl, Nat.le_refl _, ha, HBE.out, HBE2.out⟩
        case round =>
          clear HBE HBE2
          obtain ⟨j, rfl, hj1, hj2, hbe, hbe2⟩ := hrel
          have HBE := Lib.hid hbe
          have HBE2 := Lib.hid hbe2
          clear hbe hbe2
          rcases Nat.lt_or_ge j bs.length with hjt | hjt
          · have hjb : j < bs.length := hjt
            obtain ⟨g0, o0, hA0, hg0, hc0⟩ := (HR.out.below HBE.out).2 (by omega)
            have y0 := hc0 j hjb
            have hbl := HBK.out j hj1 hjt
            have hgd : bs.getD j 0 = bs[j] := by simp [List.getD, hjb]
            rw [hgd] at hbl
            have HBL := Lib.hid (fun W => rblank_any bs[j] W)
            rw [hbl] at HBL
            have s1 : decide ((j : Int) < (bs.length : Int)) = true := decide_eq_true (by omega)
            have s1' : decide (j < bs.length) = true := decide_eq_true hjt
            have hjI : (j : Int) < (bs.length : Int) := by omega
            clear hc0 hbl hgd
            obtain ⟨c, hc⟩ : ∃ c, bs[j] = c := ⟨_, rfl⟩
            rw [hc] at y0 HBL
            unfold bv at y0
            subst hA0
            clear hc
            go_wp2_with fail
            refine (HBL.out _).mono ?_
            rintro e wz ⟨rfl, rfl⟩
            go_wp2_with fail
            go_roundw
            case rel => exact ⟨j + 1, by go_num, by omega, by omega, HBE.out, HBE2.out⟩
            case measure => simp [intOf]; omega
          · obtain rfl : j = bs.length := by omega
            have s1 : decide ((bs.length : Int) < (bs.length : Int)) = false := decide_eq_false (by omega)
            clear hjt hj1 hj2
            go_wp2_with fail
            go_ret
            exact ⟨rfl, HBE.out⟩
  · obtain rfl := hbad1 h1
    have i1 : ((o.no : Int) != 0) = true := by simp; omega
    clear hok1 hbad1 h1 HA
    have k0 := str_of_RB (HR.out.below B1.out) cap0
    go_wp2_with fail
    refine (HRD.out _).mono ?_
    rintro e w2 ⟨v, rfl, hown, b2⟩
    obtain ⟨A3, c3, rfl, _⟩ := own_shape9 hown
    have B2 := Lib.hid (keepb B1.out b2)
    clear hown b2 k0
    unfold outV
    have hf1 := fun W => out_no A3 o.toks.length c3 o.no o.pos o.found o.held W
    go_wp2_with fail
    go_ret
    exact ⟨rfl, B2.out⟩
end Go.Proofs.YtgmholdkdppbmaaGreatDoor.lexAlone
