/- LexEquals: the walk. -/
import Derived.Test.YtgmholdkdppbmaaGreatDoorLexRAE
import Derived.Test.YtgmholdkdppbmaaGreatDoorLexRAH
import Derived.Test.YtgmholdkdppbmaaGreatDoorLexRAK
import Derived.Test.YtgmholdkdppbmaaGreatDoorLexRAL
import Derived.Test.YtgmholdkdppbmaaGreatDoorRows
namespace Go.Proofs.YtgmholdkdppbmaaGreatDoor.lexEquals
open Go.RowKit Go.Proofs.YtgmholdkdppbmaaGreatDoor.Lx
set_option linter.unusedSimpArgs false
set_option linter.unusedVariables false
/-- What is known of a slice of integers that came in. -/
def IsRow (k : IntKind) (w : World) (a : Option Addr) (len cap : Nat) (zs : List Int) : Prop :=
  (a = none ∧ len = 0 ∧ cap = 0 ∧ zs = []) ∨
  ∃ x, a = some x ∧ len ≤ cap ∧ cap ≤ maxLen ∧ zs.length = cap ∧ (∀ i, i < zs.length → w.cell? (x.add i) = some (.int k (zs.getD i 0))) ∧ ∀ n ∈ zs, (Lit.int k n).wf = true
attribute [local go_sem] SGives_value SGives_skip SGives_enter CGives_value CGives_skip CGives_enter

set_option maxRecDepth 100000 in
set_option maxHeartbeats 4000000 in
theorem walk (a0 : Option Addr) (len0 cap0 : Nat) (z0 : List Int) (a1 : Option Addr) (len1 cap1 : Nat) (z1 : List Int) (w : World) (w0 : IsRow .u8 w a0 len0 cap0 z0) (w1 : IsRow .u8 w a1 len1 cap1 z1) (s0 : cap0 ≤ 140737488351232) (s1 : cap1 ≤ 140737488351232) :
    Calls Tryz.prog 4 #[.slice a0 len0 cap0, .slice a1 len1 cap1] w fun e w' => e = .returned (.bool true) ∧ Below w.heap.size w w' := by
  obtain ⟨hRB, hlc, hcm⟩ := RB.of_row w0
  obtain ⟨hRC, hlc1, hcm1⟩ := RB.of_row w1
  clear w0 hcm w1 hcm1
  generalize hbs : ((z0.take len0).map fun z => UInt8.ofNat z.toNat) = bs at hRB
  generalize hcs : ((z1.take len1).map fun z => UInt8.ofNat z.toNat) = cs at hRC
  clear hbs hcs
  have hbl := hRB.1
  have hcl := hRC.1
  subst hbl hcl
  have HR := Lib.hid hRB
  have HC := Lib.hid hRC
  clear hRB hRC
  have hbn : bs.length ≤ 140737488351232 := by omega
  have hcn : cs.length ≤ 140737488351232 := by omega
  have HB := Lib.hid (fun W => beyond_any (bs.length + cs.length) W (by omega))
  have esum : ((bs.length : Nat) : Int) + ((cs.length : Nat) : Int) = ((bs.length + cs.length : Nat) : Int) := by omega
  have ewrap : IntKind.i64.wrap (((bs.length : Nat) : Int) + ((cs.length : Nat) : Int)) = ((bs.length + cs.length : Nat) : Int) := by rw [esum]; exact IntWalk.i64_in _ (by omega)
  by_cases hbig : 2147483647 < bs.length + cs.length
  · rw [show decide (2147483647 < bs.length + cs.length) = true by simpa using hbig] at HB
    clear hbig
    generalize bs.length + cs.length = N at *
    go_enter Tryz.func4, Tryz.ntmps4
    go_wp2_with fail
    refine (HB.out _).mono ?_
    rintro e w' ⟨rfl, rfl⟩
    go_wp2_with fail
    go_ret
    exact ⟨rfl, Below.refl _ _⟩
  rw [show decide (2147483647 < bs.length + cs.length) = false by simpa using hbig] at HB
  have hn : bs.length ≤ 2147483647 := by omega
  have hm : cs.length ≤ 2147483647 := by omega
  clear hbig
  generalize bs.length + cs.length = N at *
  have HRD := Lib.hid (fun W => rRead_any bs true W (by omega))
  have HRE := Lib.hid (fun W => rRead_any cs true W (by omega))
  obtain ⟨o, ho⟩ : ∃ o, refO bs true = o := ⟨_, rfl⟩
  obtain ⟨q, hq⟩ : ∃ q, refO cs true = q := ⟨_, rfl⟩
  have hol := refO_len bs true
  have hql := refO_len cs true
  rw [ho] at HRD hol
  rw [hq] at HRE hql
  have HO := Lib.hid ho
  have HQ := Lib.hid hq
  have HOL := Lib.hid hol
  have HQL := Lib.hid hql
  clear ho hol hq hql
  unfold OtE at HRD HRE
  go_enter Tryz.func4, Tryz.ntmps4
  go_wp2_with fail
  refine (HB.out _).mono ?_
  rintro e w' ⟨rfl, rfl⟩
  go_wp2_with fail
  refine (row_any a0 bs.length cap0 w.heap.size bs w HR.out (Nat.le_refl _) (by omega)).mono ?_
  rintro e w1 ⟨b1, hok1, hbad1⟩
  rw [HO.out] at hok1 hbad1
  have B1 := Lib.hid b1
  have hs1 := b1.size
  clear b1
  by_cases h1 : o.no = 0
  · obtain ⟨v1, rfl, hrow1⟩ := hok1 h1
    obtain ⟨A1, c1, rfl, _⟩ := own_shape9 hrow1
    have H1 := Lib.hid hrow1
    have i1 : ((o.no : Int) == 0) = true := by simp; omega
    clear hok1 hbad1 hrow1 h1
    go_wp2_with fail
    refine (row_any a1 cs.length cap1 w.heap.size cs w1 (HC.out.below B1.out) hs1 (by omega)).mono ?_
    rintro e w2 ⟨b2, hok2, hbad2⟩
    rw [HQ.out] at hok2 hbad2
    have B2 := Lib.hid (keepb B1.out b2)
    have H3 := Lib.hid (own_below9 H1.out b2)
    clear b2
    by_cases h2 : q.no = 0
    · obtain ⟨v2, rfl, hrow2⟩ := hok2 h2
      obtain ⟨A2, c2, rfl, _⟩ := own_shape9 hrow2
      have H2 := Lib.hid hrow2
      have i2 : ((q.no : Int) == 0) = true := by simp; omega
      clear hok2 hbad2 hrow2 h2
      have hn1 : o.toks.length ≤ 1000000000000 := by have := HOL.out; omega
      have hn2 : q.toks.length ≤ 1000000000000 := by have := HQL.out; omega
      obtain ⟨n1, hn1e⟩ : ∃ n, o.toks.length = n := ⟨_, rfl⟩
      obtain ⟨n2, hn2e⟩ : ∃ n, q.toks.length = n := ⟨_, rfl⟩
      have HN1 := Lib.hid hn1e
      have HN2 := Lib.hid hn2e
      rw [hn1e] at hn1 ⊢
      rw [hn2e] at hn2 ⊢
      clear hn1e hn2e
      have hn1I : (n1 : Int) ≤ 1000000000000 := by omega
      have hn2I : (n2 : Int) ≤ 1000000000000 := by omega
      rcases Nat.eq_zero_or_pos n1 with hz | hpos
      · subst hz
        have k0 := str_of_RB (HR.out.below B2.out) cap0
        rw [HN1.out] at HRD
        go_wp2_with fail
        refine (HRD.out _).mono ?_
        rintro e w3 ⟨v, rfl, hown, hb3⟩
        obtain ⟨A3, c3, rfl, _⟩ := own_shape9 hown
        have B3 := Lib.hid (keepb B2.out hb3)
        have hf1 := fun W => out_toks A3 o.toks.length c3 o.no o.pos o.found o.held W
        rw [HN1.out] at hf1
        clear hown hb3 k0
        unfold outV
        go_wp2_with fail
        go_loopw [9] (fun i wr => i = .int .i64 0 ∧ Below w.heap.size w wr) (fun _ _ => 0)
        case atStart => exact ⟨rfl, B3.out⟩
        case round =>
          obtain ⟨rfl, hbe⟩ := hrel
          go_wp2_with fail
          go_ret
          exact ⟨rfl, hbe⟩
      have hposI : (0 : Int) < (n1 : Int) := by omega
      have e0 : ((n1 : Int) == 0) = false := by simp; omega
      have e0' : (n1 == 0) = false := by simp; omega
      go_wp2_with fail
      go_loopw [9] (fun i wr => ∃ k : Nat, i = .int .i64 (k : Nat) ∧ k ≤ n1 ∧ k ≤ 50 ∧ Below w.heap.size w wr ∧ w2.heap.size ≤ wr.heap.size ∧ Below w2.heap.size w2 wr) (fun i _ => n1 - (intOf i).toNat)
      case atStart => exact ⟨0, rfl, by omega, by omega, B2.out, Nat.le_refl _, Below.refl _ _⟩
      case round =>
        obtain ⟨k, rfl, hk, hk50, hbe, hle, hbe2⟩ := hrel
        have HBE := Lib.hid hbe
        have HBE2 := Lib.hid hbe2
        clear hbe hbe2 hle
        rcases Classical.em (k < n1 ∧ k < 50) with ⟨hlt, hlt50⟩ | hge
        · have HLT := Lib.hid hlt
          have HLT5 := Lib.hid hlt50
          have t1 : decide ((k : Int) < (n1 : Int)) = true := decide_eq_true (by omega)
          have t1' : decide (k < n1) = true := decide_eq_true hlt
          have t2 : decide ((k : Int) < 50) = true := decide_eq_true (by omega)
          have t2' : decide (k < 50) = true := decide_eq_true hlt50
          clear hk hk50
          go_wp2_with fail
          obtain ⟨t, ht⟩ : ∃ t, o.toks[k]? = some t := ⟨_, List.getElem?_eq_getElem (by rw [HN1.out]; exact hlt)⟩
          obtain ⟨g1, d1, hv1, _, _⟩ := H3.out.form (by rw [HN1.out]; omega)
          injection hv1 with hA1 _ hc1
          subst hA1 hc1
          have HC1 : Hid (∀ (W : World) (hW : Below w2.heap.size w2 W), W.cell? ⟨g1, k, none⟩ = some (tokV t)) := Lib.hid (fun W hW => by
            have h := own_below9 H3.out hW
            rw [h.cellAt k (by rw [HN1.out]; omega), List.getElem?_map, ht]; rfl)
          obtain ⟨tx, tv, htv, hPt, hWt⟩ := tok_face t
          rw [htv] at HC1
          have HPT := Lib.hid hPt
          have HWT := Lib.hid hWt
          have HTV := Lib.hid htv
          have hkI : (k : Int) < (n1 : Int) := by omega
          clear ht hlt hlt50 htv hPt hWt
          go_loopw [10] (fun i wr => ∃ j : Nat, i = .int .i64 (j : Nat) ∧ j ≤ n2 ∧ j ≤ 50 ∧ Below w.heap.size w wr ∧ Below w2.heap.size w2 wr) (fun i _ => n2 - (intOf i).toNat)
          case atStart => exact ⟨0, rfl, by omega, by omega, HBE.out, HBE2.out⟩
          case round =>
            clear HBE HBE2
            obtain ⟨j, rfl, hj, hj50, hbe, hbe2⟩ := hrel
            have HBE := Lib.hid hbe
            have HBE2 := Lib.hid hbe2
            clear hbe hbe2
            rcases Classical.em (j < n2 ∧ j < 50) with ⟨hjt, hjt50⟩ | hge
            · have HJT := Lib.hid hjt
              have HJT5 := Lib.hid hjt50
              have s1 : decide ((j : Int) < (n2 : Int)) = true := decide_eq_true (by omega)
              have s1' : decide (j < n2) = true := decide_eq_true hjt
              have s2 : decide ((j : Int) < 50) = true := decide_eq_true (by omega)
              have s2' : decide (j < 50) = true := decide_eq_true hjt50
              obtain ⟨u, hu⟩ : ∃ u, q.toks[j]? = some u := ⟨_, List.getElem?_eq_getElem (by rw [HN2.out]; exact hjt)⟩
              obtain ⟨g2, d2, hv2, _, _⟩ := H2.out.form (by rw [HN2.out]; omega)
              injection hv2 with hA2 _ hc2
              subst hA2 hc2
              have HC2 : Hid (∀ (W : World) (hW : Below w2.heap.size w2 W), W.cell? ⟨g2, j, none⟩ = some (tokV u)) := Lib.hid (fun W hW => by
                have h := own_below9 H2.out hW
                rw [h.cellAt j (by rw [HN2.out]; omega), List.getElem?_map, hu]; rfl)
              obtain ⟨ux, uv, huv, hPu, hWu⟩ := tok_face u
              have HEQ := Lib.hid (fun W => tok_eql t u W)
              have HAL := Lib.hid (fun W => alike_any t u W)
              rw [HTV.out, huv] at HEQ HAL
              rw [huv] at HC2
              have HPU := Lib.hid hPu
              have HWU := Lib.hid hWu
              have hjI : (j : Int) < (n2 : Int) := by omega
              have y0 := HC1.out wr HBE2.out
              have y1 := HC2.out wr HBE2.out
              clear hu hjt hjt50 huv hPu hWu hj hj50
              go_wp2_with fail
              obtain ⟨ba, hba⟩ : ∃ b, alikeB t u = b := ⟨_, rfl⟩
              obtain ⟨bp, hbp⟩ : ∃ b, decide (t.pos = u.pos) = b := ⟨_, rfl⟩
              obtain ⟨bz, hbz⟩ : ∃ b, decide (t.size = u.size) = b := ⟨_, rfl⟩
              rw [hba, hbp, hbz] at HEQ
              rw [hba] at HAL
              have eP : (((t.pos : Nat) : Int) == ((u.pos : Nat) : Int)) = bp := by rw [← hbp]; by_cases h : t.pos = u.pos <;> simp [h, Int.natCast_inj]
              have eZ : (((t.size : Nat) : Int) == ((u.size : Nat) : Int)) = bz := by rw [← hbz]; by_cases h : t.size = u.size <;> simp [h, Int.natCast_inj]
              clear hba hbp hbz y0 y1 HTV
              generalize t.pos = tp at *
              generalize u.pos = up at *
              generalize t.size = tz at *
              generalize u.size = uz at *
              cases ba with
              | false =>
                simp only [Bool.false_and] at HEQ
                obtain ⟨S, SD⟩ : ∃ S : World → Prop, Go.RowKit.Hid (∀ w' : World, S w' ↔ (Below w.heap.size w w' ∧ Below w2.heap.size w2 w')) := ⟨_, Lib.hid (fun _ => Iff.rfl)⟩
                refine wp_region_sure (S := S) (by kernel_rfl) (by kernel_rfl) ((SD.out _).2 (⟨HBE.out.drew, HBE2.out.drew⟩)) ?_
                repeat
                  (first
                    | (refine SureL.no (by rfl) ?_; simp only [Act.put, List.setIfInBounds_toArray, List.set_cons_zero, List.set_cons_succ])
                    | (refine' SureL.yes (by rfl) (fun wS hS => ?_) ?_
                       rotate_left
                       · have hS' := (SD.out _).1 hS
                         have y0 := HC1.out wS hS'.2; have y1 := HC2.out wS hS'.2; have hEq := HEQ.out; have hPt := HPT.out; have hPu := HPU.out; have hWt := HWT.out; have hWu := HWU.out
                         go_simp
                         first
                           | exact ⟨rfl, hS⟩
                           | (refine (HAL.out _).mono ?_; rintro e w' ⟨rfl, hb⟩; exact ⟨rfl, (SD.out _).2 ⟨keepb hS'.1 hb, keepb hS'.2 hb⟩⟩)
                           | (refine (span_place _ _ _).mono ?_; rintro e w' ⟨rfl, hb⟩; exact ⟨rfl, (SD.out _).2 ⟨keepb hS'.1 hb, keepb hS'.2 hb⟩⟩)
                           | (refine (span_width _ _ _).mono ?_; rintro e w' ⟨rfl, hb⟩; exact ⟨rfl, (SD.out _).2 ⟨keepb hS'.1 hb, keepb hS'.2 hb⟩⟩)
                       simp only [Act.put, List.setIfInBounds_toArray, List.set_cons_zero, List.set_cons_succ]))
                refine SureL.nil ?_
                intro wE hE
                have HBB := Lib.hid ((SD.out _).1 hE)
                clear hE SD
                go_wp2_with fail
                go_roundw
                case rel => exact ⟨j + 1, by go_num, by have := HJT.out; omega, by have := HJT5.out; omega, HBB.out.1, HBB.out.2⟩
                case measure => have := HJT.out; simp [intOf]; omega
              | true =>
                cases bp with
                | false =>
                  simp only [Bool.true_and, Bool.false_and] at HEQ
                  obtain ⟨S, SD⟩ : ∃ S : World → Prop, Go.RowKit.Hid (∀ w' : World, S w' ↔ (Below w.heap.size w w' ∧ Below w2.heap.size w2 w')) := ⟨_, Lib.hid (fun _ => Iff.rfl)⟩
                  refine wp_region_sure (S := S) (by kernel_rfl) (by kernel_rfl) ((SD.out _).2 (⟨HBE.out.drew, HBE2.out.drew⟩)) ?_
                  repeat
                    (first
                      | (refine SureL.no (by rfl) ?_; simp only [Act.put, List.setIfInBounds_toArray, List.set_cons_zero, List.set_cons_succ])
                      | (refine' SureL.yes (by rfl) (fun wS hS => ?_) ?_
                         rotate_left
                         · have hS' := (SD.out _).1 hS
                           have y0 := HC1.out wS hS'.2; have y1 := HC2.out wS hS'.2; have hEq := HEQ.out; have hPt := HPT.out; have hPu := HPU.out; have hWt := HWT.out; have hWu := HWU.out
                           go_simp
                           first
                             | exact ⟨rfl, hS⟩
                             | (refine (HAL.out _).mono ?_; rintro e w' ⟨rfl, hb⟩; exact ⟨rfl, (SD.out _).2 ⟨keepb hS'.1 hb, keepb hS'.2 hb⟩⟩)
                             | (refine (span_place _ _ _).mono ?_; rintro e w' ⟨rfl, hb⟩; exact ⟨rfl, (SD.out _).2 ⟨keepb hS'.1 hb, keepb hS'.2 hb⟩⟩)
                             | (refine (span_width _ _ _).mono ?_; rintro e w' ⟨rfl, hb⟩; exact ⟨rfl, (SD.out _).2 ⟨keepb hS'.1 hb, keepb hS'.2 hb⟩⟩)
                         simp only [Act.put, List.setIfInBounds_toArray, List.set_cons_zero, List.set_cons_succ]))
                  refine SureL.nil ?_
                  intro wE hE
                  have HBB := Lib.hid ((SD.out _).1 hE)
                  clear hE SD
                  go_wp2_with fail
                  go_roundw
                  case rel => exact ⟨j + 1, by go_num, by have := HJT.out; omega, by have := HJT5.out; omega, HBB.out.1, HBB.out.2⟩
                  case measure => have := HJT.out; simp [intOf]; omega
                | true =>
                  cases bz with
                  | false =>
                    simp only [Bool.true_and] at HEQ
                    obtain ⟨S, SD⟩ : ∃ S : World → Prop, Go.RowKit.Hid (∀ w' : World, S w' ↔ (Below w.heap.size w w' ∧ Below w2.heap.size w2 w')) := ⟨_, Lib.hid (fun _ => Iff.rfl)⟩
                    refine wp_region_sure (S := S) (by kernel_rfl) (by kernel_rfl) ((SD.out _).2 (⟨HBE.out.drew, HBE2.out.drew⟩)) ?_
                    repeat
                      (first
                        | (refine SureL.no (by rfl) ?_; simp only [Act.put, List.setIfInBounds_toArray, List.set_cons_zero, List.set_cons_succ])
                        | (refine' SureL.yes (by rfl) (fun wS hS => ?_) ?_
                           rotate_left
                           · have hS' := (SD.out _).1 hS
                             have y0 := HC1.out wS hS'.2; have y1 := HC2.out wS hS'.2; have hEq := HEQ.out; have hPt := HPT.out; have hPu := HPU.out; have hWt := HWT.out; have hWu := HWU.out
                             go_simp
                             first
                               | exact ⟨rfl, hS⟩
                               | (refine (HAL.out _).mono ?_; rintro e w' ⟨rfl, hb⟩; exact ⟨rfl, (SD.out _).2 ⟨keepb hS'.1 hb, keepb hS'.2 hb⟩⟩)
                               | (refine (span_place _ _ _).mono ?_; rintro e w' ⟨rfl, hb⟩; exact ⟨rfl, (SD.out _).2 ⟨keepb hS'.1 hb, keepb hS'.2 hb⟩⟩)
                               | (refine (span_width _ _ _).mono ?_; rintro e w' ⟨rfl, hb⟩; exact ⟨rfl, (SD.out _).2 ⟨keepb hS'.1 hb, keepb hS'.2 hb⟩⟩)
                           simp only [Act.put, List.setIfInBounds_toArray, List.set_cons_zero, List.set_cons_succ]))
                    refine SureL.nil ?_
                    intro wE hE
                    have HBB := Lib.hid ((SD.out _).1 hE)
                    clear hE SD
                    go_wp2_with fail
                    go_roundw
                    case rel => exact ⟨j + 1, by go_num, by have := HJT.out; omega, by have := HJT5.out; omega, HBB.out.1, HBB.out.2⟩
                    case measure => have := HJT.out; simp [intOf]; omega
                  | true =>
                    simp only [Bool.true_and] at HEQ
                    obtain ⟨S, SD⟩ : ∃ S : World → Prop, Go.RowKit.Hid (∀ w' : World, S w' ↔ (Below w.heap.size w w' ∧ Below w2.heap.size w2 w')) := ⟨_, Lib.hid (fun _ => Iff.rfl)⟩
                    refine wp_region_sure (S := S) (by kernel_rfl) (by kernel_rfl) ((SD.out _).2 (⟨HBE.out.drew, HBE2.out.drew⟩)) ?_
                    repeat
                      (first
                        | (refine SureL.no (by rfl) ?_; simp only [Act.put, List.setIfInBounds_toArray, List.set_cons_zero, List.set_cons_succ])
                        | (refine' SureL.yes (by rfl) (fun wS hS => ?_) ?_
                           rotate_left
                           · have hS' := (SD.out _).1 hS
                             have y0 := HC1.out wS hS'.2; have y1 := HC2.out wS hS'.2; have hEq := HEQ.out; have hPt := HPT.out; have hPu := HPU.out; have hWt := HWT.out; have hWu := HWU.out
                             go_simp
                             first
                               | exact ⟨rfl, hS⟩
                               | (refine (HAL.out _).mono ?_; rintro e w' ⟨rfl, hb⟩; exact ⟨rfl, (SD.out _).2 ⟨keepb hS'.1 hb, keepb hS'.2 hb⟩⟩)
                               | (refine (span_place _ _ _).mono ?_; rintro e w' ⟨rfl, hb⟩; exact ⟨rfl, (SD.out _).2 ⟨keepb hS'.1 hb, keepb hS'.2 hb⟩⟩)
                               | (refine (span_width _ _ _).mono ?_; rintro e w' ⟨rfl, hb⟩; exact ⟨rfl, (SD.out _).2 ⟨keepb hS'.1 hb, keepb hS'.2 hb⟩⟩)
                           simp only [Act.put, List.setIfInBounds_toArray, List.set_cons_zero, List.set_cons_succ]))
                    refine SureL.nil ?_
                    intro wE hE
                    have HBB := Lib.hid ((SD.out _).1 hE)
                    clear hE SD
                    go_wp2_with fail
                    go_roundw
                    case rel => exact ⟨j + 1, by go_num, by have := HJT.out; omega, by have := HJT5.out; omega, HBB.out.1, HBB.out.2⟩
                    case measure => have := HJT.out; simp [intOf]; omega
            · rcases Nat.lt_or_ge j n2 with hjt | hjt
              · have s1 : decide ((j : Int) < (n2 : Int)) = true := decide_eq_true (by omega)
                have s1' : decide (j < n2) = true := decide_eq_true hjt
                have s2 : decide ((j : Int) < 50) = false := decide_eq_false (by omega)
                have s2' : decide (j < 50) = false := decide_eq_false (by omega)
                clear hge hj hj50 hjt
                go_wp2_with fail
                go_roundw
                case rel => exact ⟨k + 1, by go_num, by have := HLT.out; omega, by have := HLT5.out; omega, HBE.out, HBE2.out.size, HBE2.out⟩
                case measure => have := HLT.out; simp [intOf]; omega
              · have s1 : decide ((j : Int) < (n2 : Int)) = false := decide_eq_false (by omega)
                have s1' : decide (j < n2) = false := decide_eq_false (by omega)
                clear hge hj hj50 hjt
                go_wp2_with fail
                go_roundw
                case rel => exact ⟨k + 1, by go_num, by have := HLT.out; omega, by have := HLT5.out; omega, HBE.out, HBE2.out.size, HBE2.out⟩
                case measure => have := HLT.out; simp [intOf]; omega
        · rcases Nat.lt_or_ge k n1 with hlt | hlt
          · have t1 : decide ((k : Int) < (n1 : Int)) = true := decide_eq_true (by omega)
            have t1' : decide (k < n1) = true := decide_eq_true hlt
            have t2 : decide ((k : Int) < 50) = false := decide_eq_false (by omega)
            have t2' : decide (k < 50) = false := decide_eq_false (by omega)
            clear hge hk hk50 hlt
            go_wp2_with fail
            go_ret
            exact ⟨rfl, HBE.out⟩
          · have t1 : decide ((k : Int) < (n1 : Int)) = false := decide_eq_false (by omega)
            have t1' : decide (k < n1) = false := decide_eq_false (by omega)
            clear hge hk hk50 hlt
            go_wp2_with fail
            go_ret
            exact ⟨rfl, HBE.out⟩
    · obtain rfl := hbad2 h2
      have i2 : ((q.no : Int) == 0) = false := by simp; omega
      clear hok2 hbad2 h2
      go_wp2_with fail
      obtain ⟨S, SD⟩ : ∃ S : World → Prop, Go.RowKit.Hid (∀ w' : World, S w' ↔ (Below w.heap.size w w')) := ⟨_, Lib.hid (fun _ => Iff.rfl)⟩
      refine wp_region_way (S := S) (by kernel_rfl) (by kernel_rfl) (fun W W' h hb => (SD.out _).2 (keepb ((SD.out _).1 h) hb)) ((SD.out _).2 (B2.out.drew)) ?_
      first
        | (refine Way.no 0 (by rfl) (by kernel_rfl) (by rfl) ?_; simp only [Act.put, List.setIfInBounds_toArray, List.set_cons_zero, List.set_cons_succ])
        | (refine' Way.yes 0 (by rfl) (by kernel_rfl) (by rfl) (fun wS hS => ?_) ?_
           rotate_left
           · have hS' := (SD.out _).1 hS
             have k0 := str_of_RB (HR.out.below hS') cap0; have k1 := str_of_RB (HC.out.below hS') cap1
             go_simp
             first
               | exact ⟨rfl, Below.refl _ _⟩
           simp only [Act.put, List.setIfInBounds_toArray, List.set_cons_zero, List.set_cons_succ])
      first
        | (refine Way.no 1 (by rfl) (by kernel_rfl) (by rfl) ?_; simp only [Act.put, List.setIfInBounds_toArray, List.set_cons_zero, List.set_cons_succ])
        | (refine' Way.yes 1 (by rfl) (by kernel_rfl) (by rfl) (fun wS hS => ?_) ?_
           rotate_left
           · have hS' := (SD.out _).1 hS
             have k0 := str_of_RB (HR.out.below hS') cap0; have k1 := str_of_RB (HC.out.below hS') cap1
             go_simp
             first
               | exact ⟨rfl, Below.refl _ _⟩
           simp only [Act.put, List.setIfInBounds_toArray, List.set_cons_zero, List.set_cons_succ])
      first
        | (refine Way.no 2 (by rfl) (by kernel_rfl) (by rfl) ?_; simp only [Act.put, List.setIfInBounds_toArray, List.set_cons_zero, List.set_cons_succ])
        | (refine' Way.yes 2 (by rfl) (by kernel_rfl) (by rfl) (fun wS hS => ?_) ?_
           rotate_left
           · have hS' := (SD.out _).1 hS
             have k0 := str_of_RB (HR.out.below hS') cap0; have k1 := str_of_RB (HC.out.below hS') cap1
             go_simp
             first
               | exact ⟨rfl, Below.refl _ _⟩
           simp only [Act.put, List.setIfInBounds_toArray, List.set_cons_zero, List.set_cons_succ])
      first
        | (refine Way.no 3 (by rfl) (by kernel_rfl) (by rfl) ?_; simp only [Act.put, List.setIfInBounds_toArray, List.set_cons_zero, List.set_cons_succ])
        | (refine' Way.yes 3 (by rfl) (by kernel_rfl) (by rfl) (fun wS hS => ?_) ?_
           rotate_left
           · have hS' := (SD.out _).1 hS
             have k0 := str_of_RB (HR.out.below hS') cap0; have k1 := str_of_RB (HC.out.below hS') cap1
             go_simp
             first
               | exact ⟨rfl, Below.refl _ _⟩
           simp only [Act.put, List.setIfInBounds_toArray, List.set_cons_zero, List.set_cons_succ])
      refine Way.move 4 (by rfl) (by kernel_rfl) (by rfl) (fun wA hS => ?_)
      have hA := (SD.out _).1 hS
      go_simp
      simp only [MGives_enter]
      refine (HRD.out _).mono ?_
      rintro e wB ⟨v, rfl, hown, hb⟩
      refine ⟨_, rfl, ?_⟩
      refine Moved.keep S (fun W W' h hb => (SD.out _).2 (keepb ((SD.out _).1 h) hb)) (fun x h => h) ((SD.out _).2 (keepb hA hb)) ?_
      clear hown hb hA hS
      first
        | (refine Way.no 5 (by rfl) (by kernel_rfl) (by rfl) ?_; simp only [Act.put, List.setIfInBounds_toArray, List.set_cons_zero, List.set_cons_succ])
        | (refine' Way.yes 5 (by rfl) (by kernel_rfl) (by rfl) (fun wS hS => ?_) ?_
           rotate_left
           · have hS' := (SD.out _).1 hS
             have k0 := str_of_RB (HR.out.below hS') cap0; have k1 := str_of_RB (HC.out.below hS') cap1
             go_simp
             first
               | exact ⟨rfl, Below.refl _ _⟩
           simp only [Act.put, List.setIfInBounds_toArray, List.set_cons_zero, List.set_cons_succ])
      first
        | (refine Way.no 6 (by rfl) (by kernel_rfl) (by rfl) ?_; simp only [Act.put, List.setIfInBounds_toArray, List.set_cons_zero, List.set_cons_succ])
        | (refine' Way.yes 6 (by rfl) (by kernel_rfl) (by rfl) (fun wS hS => ?_) ?_
           rotate_left
           · have hS' := (SD.out _).1 hS
             have k0 := str_of_RB (HR.out.below hS') cap0; have k1 := str_of_RB (HC.out.below hS') cap1
             go_simp
             first
               | exact ⟨rfl, Below.refl _ _⟩
           simp only [Act.put, List.setIfInBounds_toArray, List.set_cons_zero, List.set_cons_succ])
      first
        | (refine Way.no 7 (by rfl) (by kernel_rfl) (by rfl) ?_; simp only [Act.put, List.setIfInBounds_toArray, List.set_cons_zero, List.set_cons_succ])
        | (refine' Way.yes 7 (by rfl) (by kernel_rfl) (by rfl) (fun wS hS => ?_) ?_
           rotate_left
           · have hS' := (SD.out _).1 hS
             have k0 := str_of_RB (HR.out.below hS') cap0; have k1 := str_of_RB (HC.out.below hS') cap1
             go_simp
             first
               | exact ⟨rfl, Below.refl _ _⟩
           simp only [Act.put, List.setIfInBounds_toArray, List.set_cons_zero, List.set_cons_succ])
      first
        | (refine Way.no 8 (by rfl) (by kernel_rfl) (by rfl) ?_; simp only [Act.put, List.setIfInBounds_toArray, List.set_cons_zero, List.set_cons_succ])
        | (refine' Way.yes 8 (by rfl) (by kernel_rfl) (by rfl) (fun wS hS => ?_) ?_
           rotate_left
           · have hS' := (SD.out _).1 hS
             have k0 := str_of_RB (HR.out.below hS') cap0; have k1 := str_of_RB (HC.out.below hS') cap1
             go_simp
             first
               | exact ⟨rfl, Below.refl _ _⟩
           simp only [Act.put, List.setIfInBounds_toArray, List.set_cons_zero, List.set_cons_succ])
      first
        | (refine Way.no 9 (by rfl) (by kernel_rfl) (by rfl) ?_; simp only [Act.put, List.setIfInBounds_toArray, List.set_cons_zero, List.set_cons_succ])
        | (refine' Way.yes 9 (by rfl) (by kernel_rfl) (by rfl) (fun wS hS => ?_) ?_
           rotate_left
           · have hS' := (SD.out _).1 hS
             have k0 := str_of_RB (HR.out.below hS') cap0; have k1 := str_of_RB (HC.out.below hS') cap1
             go_simp
             first
               | exact ⟨rfl, Below.refl _ _⟩
           simp only [Act.put, List.setIfInBounds_toArray, List.set_cons_zero, List.set_cons_succ])
      first
        | (refine Way.no 10 (by rfl) (by kernel_rfl) (by rfl) ?_; simp only [Act.put, List.setIfInBounds_toArray, List.set_cons_zero, List.set_cons_succ])
        | (refine' Way.yes 10 (by rfl) (by kernel_rfl) (by rfl) (fun wS hS => ?_) ?_
           rotate_left
           · have hS' := (SD.out _).1 hS
             have k0 := str_of_RB (HR.out.below hS') cap0; have k1 := str_of_RB (HC.out.below hS') cap1
             go_simp
             first
               | exact ⟨rfl, Below.refl _ _⟩
           simp only [Act.put, List.setIfInBounds_toArray, List.set_cons_zero, List.set_cons_succ])
      first
        | (refine Way.no 11 (by rfl) (by kernel_rfl) (by rfl) ?_; simp only [Act.put, List.setIfInBounds_toArray, List.set_cons_zero, List.set_cons_succ])
        | (refine' Way.yes 11 (by rfl) (by kernel_rfl) (by rfl) (fun wS hS => ?_) ?_
           rotate_left
           · have hS' := (SD.out _).1 hS
             have k0 := str_of_RB (HR.out.below hS') cap0; have k1 := str_of_RB (HC.out.below hS') cap1
             go_simp
             first
               | exact ⟨rfl, Below.refl _ _⟩
           simp only [Act.put, List.setIfInBounds_toArray, List.set_cons_zero, List.set_cons_succ])
      first
        | (refine Way.no 12 (by rfl) (by kernel_rfl) (by rfl) ?_; simp only [Act.put, List.setIfInBounds_toArray, List.set_cons_zero, List.set_cons_succ])
        | (refine' Way.yes 12 (by rfl) (by kernel_rfl) (by rfl) (fun wS hS => ?_) ?_
           rotate_left
           · have hS' := (SD.out _).1 hS
             have k0 := str_of_RB (HR.out.below hS') cap0; have k1 := str_of_RB (HC.out.below hS') cap1
             go_simp
             first
               | exact ⟨rfl, Below.refl _ _⟩
           simp only [Act.put, List.setIfInBounds_toArray, List.set_cons_zero, List.set_cons_succ])
      refine Way.move 13 (by rfl) (by kernel_rfl) (by rfl) (fun wA hS => ?_)
      have hA := (SD.out _).1 hS
      go_simp
      simp only [MGives_enter]
      refine (HRE.out _).mono ?_
      rintro e wB ⟨v, rfl, hown, hb⟩
      refine ⟨_, rfl, ?_⟩
      refine Moved.keep S (fun W W' h hb => (SD.out _).2 (keepb ((SD.out _).1 h) hb)) (fun x h => h) ((SD.out _).2 (keepb hA hb)) ?_
      clear hown hb hA hS
      first
        | (refine Way.no 14 (by rfl) (by kernel_rfl) (by rfl) ?_; simp only [Act.put, List.setIfInBounds_toArray, List.set_cons_zero, List.set_cons_succ])
        | (refine' Way.yes 14 (by rfl) (by kernel_rfl) (by rfl) (fun wS hS => ?_) ?_
           rotate_left
           · have hS' := (SD.out _).1 hS
             have k0 := str_of_RB (HR.out.below hS') cap0; have k1 := str_of_RB (HC.out.below hS') cap1
             go_simp
             first
               | exact ⟨rfl, Below.refl _ _⟩
           simp only [Act.put, List.setIfInBounds_toArray, List.set_cons_zero, List.set_cons_succ])
      first
        | (refine Way.no 15 (by rfl) (by kernel_rfl) (by rfl) ?_; simp only [Act.put, List.setIfInBounds_toArray, List.set_cons_zero, List.set_cons_succ])
        | (refine' Way.yes 15 (by rfl) (by kernel_rfl) (by rfl) (fun wS hS => ?_) ?_
           rotate_left
           · have hS' := (SD.out _).1 hS
             have k0 := str_of_RB (HR.out.below hS') cap0; have k1 := str_of_RB (HC.out.below hS') cap1
             go_simp
             first
               | exact ⟨rfl, Below.refl _ _⟩
           simp only [Act.put, List.setIfInBounds_toArray, List.set_cons_zero, List.set_cons_succ])
      first
        | (refine Way.no 16 (by rfl) (by kernel_rfl) (by rfl) ?_; simp only [Act.put, List.setIfInBounds_toArray, List.set_cons_zero, List.set_cons_succ])
        | (refine' Way.yes 16 (by rfl) (by kernel_rfl) (by rfl) (fun wS hS => ?_) ?_
           rotate_left
           · have hS' := (SD.out _).1 hS
             have k0 := str_of_RB (HR.out.below hS') cap0; have k1 := str_of_RB (HC.out.below hS') cap1
             go_simp
             first
               | exact ⟨rfl, Below.refl _ _⟩
           simp only [Act.put, List.setIfInBounds_toArray, List.set_cons_zero, List.set_cons_succ])
      first
        | (refine Way.no 17 (by rfl) (by kernel_rfl) (by rfl) ?_; simp only [Act.put, List.setIfInBounds_toArray, List.set_cons_zero, List.set_cons_succ])
        | (refine' Way.yes 17 (by rfl) (by kernel_rfl) (by rfl) (fun wS hS => ?_) ?_
           rotate_left
           · have hS' := (SD.out _).1 hS
             have k0 := str_of_RB (HR.out.below hS') cap0; have k1 := str_of_RB (HC.out.below hS') cap1
             go_simp
             first
               | exact ⟨rfl, Below.refl _ _⟩
           simp only [Act.put, List.setIfInBounds_toArray, List.set_cons_zero, List.set_cons_succ])
      first
        | (refine Way.no 18 (by rfl) (by kernel_rfl) (by rfl) ?_; simp only [Act.put, List.setIfInBounds_toArray, List.set_cons_zero, List.set_cons_succ])
        | (refine' Way.yes 18 (by rfl) (by kernel_rfl) (by rfl) (fun wS hS => ?_) ?_
           rotate_left
           · have hS' := (SD.out _).1 hS
             have k0 := str_of_RB (HR.out.below hS') cap0; have k1 := str_of_RB (HC.out.below hS') cap1
             go_simp
             first
               | exact ⟨rfl, Below.refl _ _⟩
           simp only [Act.put, List.setIfInBounds_toArray, List.set_cons_zero, List.set_cons_succ])
      refine Way.done (by kernel_rfl) (fun wE hS => ?_)
      have BE := Lib.hid ((SD.out _).1 hS)
      clear hS SD
      go_wp2_with fail
      go_ret
      exact ⟨rfl, BE.out⟩
  · obtain rfl := hbad1 h1
    have i1 : ((o.no : Int) == 0) = false := by simp; omega
    clear hok1 hbad1 h1
    go_wp2_with fail
    refine (row_any a1 cs.length cap1 w.heap.size cs w1 (HC.out.below B1.out) hs1 (by omega)).mono ?_
    rintro e w2 ⟨b2, hok2, hbad2⟩
    rw [HQ.out] at hok2 hbad2
    have B2 := Lib.hid (keepb B1.out b2)
    clear b2
    by_cases h2 : q.no = 0
    · obtain ⟨v2, rfl, hrow2⟩ := hok2 h2
      obtain ⟨A2, c2, rfl, _⟩ := own_shape9 hrow2
      have H2 := Lib.hid hrow2
      have i2 : ((q.no : Int) == 0) = true := by simp; omega
      clear hok2 hbad2 hrow2 h2
      go_wp2_with fail
      obtain ⟨S, SD⟩ : ∃ S : World → Prop, Go.RowKit.Hid (∀ w' : World, S w' ↔ (Below w.heap.size w w')) := ⟨_, Lib.hid (fun _ => Iff.rfl)⟩
      refine wp_region_way (S := S) (by kernel_rfl) (by kernel_rfl) (fun W W' h hb => (SD.out _).2 (keepb ((SD.out _).1 h) hb)) ((SD.out _).2 (B2.out.drew)) ?_
      first
        | (refine Way.no 0 (by rfl) (by kernel_rfl) (by rfl) ?_; simp only [Act.put, List.setIfInBounds_toArray, List.set_cons_zero, List.set_cons_succ])
        | (refine' Way.yes 0 (by rfl) (by kernel_rfl) (by rfl) (fun wS hS => ?_) ?_
           rotate_left
           · have hS' := (SD.out _).1 hS
             have k0 := str_of_RB (HR.out.below hS') cap0; have k1 := str_of_RB (HC.out.below hS') cap1
             go_simp
             first
               | exact ⟨rfl, Below.refl _ _⟩
           simp only [Act.put, List.setIfInBounds_toArray, List.set_cons_zero, List.set_cons_succ])
      first
        | (refine Way.no 1 (by rfl) (by kernel_rfl) (by rfl) ?_; simp only [Act.put, List.setIfInBounds_toArray, List.set_cons_zero, List.set_cons_succ])
        | (refine' Way.yes 1 (by rfl) (by kernel_rfl) (by rfl) (fun wS hS => ?_) ?_
           rotate_left
           · have hS' := (SD.out _).1 hS
             have k0 := str_of_RB (HR.out.below hS') cap0; have k1 := str_of_RB (HC.out.below hS') cap1
             go_simp
             first
               | exact ⟨rfl, Below.refl _ _⟩
           simp only [Act.put, List.setIfInBounds_toArray, List.set_cons_zero, List.set_cons_succ])
      first
        | (refine Way.no 2 (by rfl) (by kernel_rfl) (by rfl) ?_; simp only [Act.put, List.setIfInBounds_toArray, List.set_cons_zero, List.set_cons_succ])
        | (refine' Way.yes 2 (by rfl) (by kernel_rfl) (by rfl) (fun wS hS => ?_) ?_
           rotate_left
           · have hS' := (SD.out _).1 hS
             have k0 := str_of_RB (HR.out.below hS') cap0; have k1 := str_of_RB (HC.out.below hS') cap1
             go_simp
             first
               | exact ⟨rfl, Below.refl _ _⟩
           simp only [Act.put, List.setIfInBounds_toArray, List.set_cons_zero, List.set_cons_succ])
      first
        | (refine Way.no 3 (by rfl) (by kernel_rfl) (by rfl) ?_; simp only [Act.put, List.setIfInBounds_toArray, List.set_cons_zero, List.set_cons_succ])
        | (refine' Way.yes 3 (by rfl) (by kernel_rfl) (by rfl) (fun wS hS => ?_) ?_
           rotate_left
           · have hS' := (SD.out _).1 hS
             have k0 := str_of_RB (HR.out.below hS') cap0; have k1 := str_of_RB (HC.out.below hS') cap1
             go_simp
             first
               | exact ⟨rfl, Below.refl _ _⟩
           simp only [Act.put, List.setIfInBounds_toArray, List.set_cons_zero, List.set_cons_succ])
      refine Way.move 4 (by rfl) (by kernel_rfl) (by rfl) (fun wA hS => ?_)
      have hA := (SD.out _).1 hS
      go_simp
      simp only [MGives_enter]
      refine (HRD.out _).mono ?_
      rintro e wB ⟨v, rfl, hown, hb⟩
      refine ⟨_, rfl, ?_⟩
      refine Moved.keep S (fun W W' h hb => (SD.out _).2 (keepb ((SD.out _).1 h) hb)) (fun x h => h) ((SD.out _).2 (keepb hA hb)) ?_
      clear hown hb hA hS
      first
        | (refine Way.no 5 (by rfl) (by kernel_rfl) (by rfl) ?_; simp only [Act.put, List.setIfInBounds_toArray, List.set_cons_zero, List.set_cons_succ])
        | (refine' Way.yes 5 (by rfl) (by kernel_rfl) (by rfl) (fun wS hS => ?_) ?_
           rotate_left
           · have hS' := (SD.out _).1 hS
             have k0 := str_of_RB (HR.out.below hS') cap0; have k1 := str_of_RB (HC.out.below hS') cap1
             go_simp
             first
               | exact ⟨rfl, Below.refl _ _⟩
           simp only [Act.put, List.setIfInBounds_toArray, List.set_cons_zero, List.set_cons_succ])
      first
        | (refine Way.no 6 (by rfl) (by kernel_rfl) (by rfl) ?_; simp only [Act.put, List.setIfInBounds_toArray, List.set_cons_zero, List.set_cons_succ])
        | (refine' Way.yes 6 (by rfl) (by kernel_rfl) (by rfl) (fun wS hS => ?_) ?_
           rotate_left
           · have hS' := (SD.out _).1 hS
             have k0 := str_of_RB (HR.out.below hS') cap0; have k1 := str_of_RB (HC.out.below hS') cap1
             go_simp
             first
               | exact ⟨rfl, Below.refl _ _⟩
           simp only [Act.put, List.setIfInBounds_toArray, List.set_cons_zero, List.set_cons_succ])
      first
        | (refine Way.no 7 (by rfl) (by kernel_rfl) (by rfl) ?_; simp only [Act.put, List.setIfInBounds_toArray, List.set_cons_zero, List.set_cons_succ])
        | (refine' Way.yes 7 (by rfl) (by kernel_rfl) (by rfl) (fun wS hS => ?_) ?_
           rotate_left
           · have hS' := (SD.out _).1 hS
             have k0 := str_of_RB (HR.out.below hS') cap0; have k1 := str_of_RB (HC.out.below hS') cap1
             go_simp
             first
               | exact ⟨rfl, Below.refl _ _⟩
           simp only [Act.put, List.setIfInBounds_toArray, List.set_cons_zero, List.set_cons_succ])
      first
        | (refine Way.no 8 (by rfl) (by kernel_rfl) (by rfl) ?_; simp only [Act.put, List.setIfInBounds_toArray, List.set_cons_zero, List.set_cons_succ])
        | (refine' Way.yes 8 (by rfl) (by kernel_rfl) (by rfl) (fun wS hS => ?_) ?_
           rotate_left
           · have hS' := (SD.out _).1 hS
             have k0 := str_of_RB (HR.out.below hS') cap0; have k1 := str_of_RB (HC.out.below hS') cap1
             go_simp
             first
               | exact ⟨rfl, Below.refl _ _⟩
           simp only [Act.put, List.setIfInBounds_toArray, List.set_cons_zero, List.set_cons_succ])
      first
        | (refine Way.no 9 (by rfl) (by kernel_rfl) (by rfl) ?_; simp only [Act.put, List.setIfInBounds_toArray, List.set_cons_zero, List.set_cons_succ])
        | (refine' Way.yes 9 (by rfl) (by kernel_rfl) (by rfl) (fun wS hS => ?_) ?_
           rotate_left
           · have hS' := (SD.out _).1 hS
             have k0 := str_of_RB (HR.out.below hS') cap0; have k1 := str_of_RB (HC.out.below hS') cap1
             go_simp
             first
               | exact ⟨rfl, Below.refl _ _⟩
           simp only [Act.put, List.setIfInBounds_toArray, List.set_cons_zero, List.set_cons_succ])
      first
        | (refine Way.no 10 (by rfl) (by kernel_rfl) (by rfl) ?_; simp only [Act.put, List.setIfInBounds_toArray, List.set_cons_zero, List.set_cons_succ])
        | (refine' Way.yes 10 (by rfl) (by kernel_rfl) (by rfl) (fun wS hS => ?_) ?_
           rotate_left
           · have hS' := (SD.out _).1 hS
             have k0 := str_of_RB (HR.out.below hS') cap0; have k1 := str_of_RB (HC.out.below hS') cap1
             go_simp
             first
               | exact ⟨rfl, Below.refl _ _⟩
           simp only [Act.put, List.setIfInBounds_toArray, List.set_cons_zero, List.set_cons_succ])
      first
        | (refine Way.no 11 (by rfl) (by kernel_rfl) (by rfl) ?_; simp only [Act.put, List.setIfInBounds_toArray, List.set_cons_zero, List.set_cons_succ])
        | (refine' Way.yes 11 (by rfl) (by kernel_rfl) (by rfl) (fun wS hS => ?_) ?_
           rotate_left
           · have hS' := (SD.out _).1 hS
             have k0 := str_of_RB (HR.out.below hS') cap0; have k1 := str_of_RB (HC.out.below hS') cap1
             go_simp
             first
               | exact ⟨rfl, Below.refl _ _⟩
           simp only [Act.put, List.setIfInBounds_toArray, List.set_cons_zero, List.set_cons_succ])
      first
        | (refine Way.no 12 (by rfl) (by kernel_rfl) (by rfl) ?_; simp only [Act.put, List.setIfInBounds_toArray, List.set_cons_zero, List.set_cons_succ])
        | (refine' Way.yes 12 (by rfl) (by kernel_rfl) (by rfl) (fun wS hS => ?_) ?_
           rotate_left
           · have hS' := (SD.out _).1 hS
             have k0 := str_of_RB (HR.out.below hS') cap0; have k1 := str_of_RB (HC.out.below hS') cap1
             go_simp
             first
               | exact ⟨rfl, Below.refl _ _⟩
           simp only [Act.put, List.setIfInBounds_toArray, List.set_cons_zero, List.set_cons_succ])
      refine Way.move 13 (by rfl) (by kernel_rfl) (by rfl) (fun wA hS => ?_)
      have hA := (SD.out _).1 hS
      go_simp
      simp only [MGives_enter]
      refine (HRE.out _).mono ?_
      rintro e wB ⟨v, rfl, hown, hb⟩
      refine ⟨_, rfl, ?_⟩
      refine Moved.keep S (fun W W' h hb => (SD.out _).2 (keepb ((SD.out _).1 h) hb)) (fun x h => h) ((SD.out _).2 (keepb hA hb)) ?_
      clear hown hb hA hS
      first
        | (refine Way.no 14 (by rfl) (by kernel_rfl) (by rfl) ?_; simp only [Act.put, List.setIfInBounds_toArray, List.set_cons_zero, List.set_cons_succ])
        | (refine' Way.yes 14 (by rfl) (by kernel_rfl) (by rfl) (fun wS hS => ?_) ?_
           rotate_left
           · have hS' := (SD.out _).1 hS
             have k0 := str_of_RB (HR.out.below hS') cap0; have k1 := str_of_RB (HC.out.below hS') cap1
             go_simp
             first
               | exact ⟨rfl, Below.refl _ _⟩
           simp only [Act.put, List.setIfInBounds_toArray, List.set_cons_zero, List.set_cons_succ])
      first
        | (refine Way.no 15 (by rfl) (by kernel_rfl) (by rfl) ?_; simp only [Act.put, List.setIfInBounds_toArray, List.set_cons_zero, List.set_cons_succ])
        | (refine' Way.yes 15 (by rfl) (by kernel_rfl) (by rfl) (fun wS hS => ?_) ?_
           rotate_left
           · have hS' := (SD.out _).1 hS
             have k0 := str_of_RB (HR.out.below hS') cap0; have k1 := str_of_RB (HC.out.below hS') cap1
             go_simp
             first
               | exact ⟨rfl, Below.refl _ _⟩
           simp only [Act.put, List.setIfInBounds_toArray, List.set_cons_zero, List.set_cons_succ])
      first
        | (refine Way.no 16 (by rfl) (by kernel_rfl) (by rfl) ?_; simp only [Act.put, List.setIfInBounds_toArray, List.set_cons_zero, List.set_cons_succ])
        | (refine' Way.yes 16 (by rfl) (by kernel_rfl) (by rfl) (fun wS hS => ?_) ?_
           rotate_left
           · have hS' := (SD.out _).1 hS
             have k0 := str_of_RB (HR.out.below hS') cap0; have k1 := str_of_RB (HC.out.below hS') cap1
             go_simp
             first
               | exact ⟨rfl, Below.refl _ _⟩
           simp only [Act.put, List.setIfInBounds_toArray, List.set_cons_zero, List.set_cons_succ])
      first
        | (refine Way.no 17 (by rfl) (by kernel_rfl) (by rfl) ?_; simp only [Act.put, List.setIfInBounds_toArray, List.set_cons_zero, List.set_cons_succ])
        | (refine' Way.yes 17 (by rfl) (by kernel_rfl) (by rfl) (fun wS hS => ?_) ?_
           rotate_left
           · have hS' := (SD.out _).1 hS
             have k0 := str_of_RB (HR.out.below hS') cap0; have k1 := str_of_RB (HC.out.below hS') cap1
             go_simp
             first
               | exact ⟨rfl, Below.refl _ _⟩
           simp only [Act.put, List.setIfInBounds_toArray, List.set_cons_zero, List.set_cons_succ])
      first
        | (refine Way.no 18 (by rfl) (by kernel_rfl) (by rfl) ?_; simp only [Act.put, List.setIfInBounds_toArray, List.set_cons_zero, List.set_cons_succ])
        | (refine' Way.yes 18 (by rfl) (by kernel_rfl) (by rfl) (fun wS hS => ?_) ?_
           rotate_left
           · have hS' := (SD.out _).1 hS
             have k0 := str_of_RB (HR.out.below hS') cap0; have k1 := str_of_RB (HC.out.below hS') cap1
             go_simp
             first
               | exact ⟨rfl, Below.refl _ _⟩
           simp only [Act.put, List.setIfInBounds_toArray, List.set_cons_zero, List.set_cons_succ])
      refine Way.done (by kernel_rfl) (fun wE hS => ?_)
      have BE := Lib.hid ((SD.out _).1 hS)
      clear hS SD
      go_wp2_with fail
      go_ret
      exact ⟨rfl, BE.out⟩
    · obtain rfl := hbad2 h2
      have i2 : ((q.no : Int) == 0) = false := by simp; omega
      clear hok2 hbad2 h2
      go_wp2_with fail
      obtain ⟨S, SD⟩ : ∃ S : World → Prop, Go.RowKit.Hid (∀ w' : World, S w' ↔ (Below w.heap.size w w')) := ⟨_, Lib.hid (fun _ => Iff.rfl)⟩
      refine wp_region_way (S := S) (by kernel_rfl) (by kernel_rfl) (fun W W' h hb => (SD.out _).2 (keepb ((SD.out _).1 h) hb)) ((SD.out _).2 (B2.out.drew)) ?_
      first
        | (refine Way.no 0 (by rfl) (by kernel_rfl) (by rfl) ?_; simp only [Act.put, List.setIfInBounds_toArray, List.set_cons_zero, List.set_cons_succ])
        | (refine' Way.yes 0 (by rfl) (by kernel_rfl) (by rfl) (fun wS hS => ?_) ?_
           rotate_left
           · have hS' := (SD.out _).1 hS
             have k0 := str_of_RB (HR.out.below hS') cap0; have k1 := str_of_RB (HC.out.below hS') cap1
             go_simp
             first
               | exact ⟨rfl, Below.refl _ _⟩
           simp only [Act.put, List.setIfInBounds_toArray, List.set_cons_zero, List.set_cons_succ])
      first
        | (refine Way.no 1 (by rfl) (by kernel_rfl) (by rfl) ?_; simp only [Act.put, List.setIfInBounds_toArray, List.set_cons_zero, List.set_cons_succ])
        | (refine' Way.yes 1 (by rfl) (by kernel_rfl) (by rfl) (fun wS hS => ?_) ?_
           rotate_left
           · have hS' := (SD.out _).1 hS
             have k0 := str_of_RB (HR.out.below hS') cap0; have k1 := str_of_RB (HC.out.below hS') cap1
             go_simp
             first
               | exact ⟨rfl, Below.refl _ _⟩
           simp only [Act.put, List.setIfInBounds_toArray, List.set_cons_zero, List.set_cons_succ])
      first
        | (refine Way.no 2 (by rfl) (by kernel_rfl) (by rfl) ?_; simp only [Act.put, List.setIfInBounds_toArray, List.set_cons_zero, List.set_cons_succ])
        | (refine' Way.yes 2 (by rfl) (by kernel_rfl) (by rfl) (fun wS hS => ?_) ?_
           rotate_left
           · have hS' := (SD.out _).1 hS
             have k0 := str_of_RB (HR.out.below hS') cap0; have k1 := str_of_RB (HC.out.below hS') cap1
             go_simp
             first
               | exact ⟨rfl, Below.refl _ _⟩
           simp only [Act.put, List.setIfInBounds_toArray, List.set_cons_zero, List.set_cons_succ])
      first
        | (refine Way.no 3 (by rfl) (by kernel_rfl) (by rfl) ?_; simp only [Act.put, List.setIfInBounds_toArray, List.set_cons_zero, List.set_cons_succ])
        | (refine' Way.yes 3 (by rfl) (by kernel_rfl) (by rfl) (fun wS hS => ?_) ?_
           rotate_left
           · have hS' := (SD.out _).1 hS
             have k0 := str_of_RB (HR.out.below hS') cap0; have k1 := str_of_RB (HC.out.below hS') cap1
             go_simp
             first
               | exact ⟨rfl, Below.refl _ _⟩
           simp only [Act.put, List.setIfInBounds_toArray, List.set_cons_zero, List.set_cons_succ])
      refine Way.move 4 (by rfl) (by kernel_rfl) (by rfl) (fun wA hS => ?_)
      have hA := (SD.out _).1 hS
      go_simp
      simp only [MGives_enter]
      refine (HRD.out _).mono ?_
      rintro e wB ⟨v, rfl, hown, hb⟩
      refine ⟨_, rfl, ?_⟩
      refine Moved.keep S (fun W W' h hb => (SD.out _).2 (keepb ((SD.out _).1 h) hb)) (fun x h => h) ((SD.out _).2 (keepb hA hb)) ?_
      clear hown hb hA hS
      first
        | (refine Way.no 5 (by rfl) (by kernel_rfl) (by rfl) ?_; simp only [Act.put, List.setIfInBounds_toArray, List.set_cons_zero, List.set_cons_succ])
        | (refine' Way.yes 5 (by rfl) (by kernel_rfl) (by rfl) (fun wS hS => ?_) ?_
           rotate_left
           · have hS' := (SD.out _).1 hS
             have k0 := str_of_RB (HR.out.below hS') cap0; have k1 := str_of_RB (HC.out.below hS') cap1
             go_simp
             first
               | exact ⟨rfl, Below.refl _ _⟩
           simp only [Act.put, List.setIfInBounds_toArray, List.set_cons_zero, List.set_cons_succ])
      first
        | (refine Way.no 6 (by rfl) (by kernel_rfl) (by rfl) ?_; simp only [Act.put, List.setIfInBounds_toArray, List.set_cons_zero, List.set_cons_succ])
        | (refine' Way.yes 6 (by rfl) (by kernel_rfl) (by rfl) (fun wS hS => ?_) ?_
           rotate_left
           · have hS' := (SD.out _).1 hS
             have k0 := str_of_RB (HR.out.below hS') cap0; have k1 := str_of_RB (HC.out.below hS') cap1
             go_simp
             first
               | exact ⟨rfl, Below.refl _ _⟩
           simp only [Act.put, List.setIfInBounds_toArray, List.set_cons_zero, List.set_cons_succ])
      first
        | (refine Way.no 7 (by rfl) (by kernel_rfl) (by rfl) ?_; simp only [Act.put, List.setIfInBounds_toArray, List.set_cons_zero, List.set_cons_succ])
        | (refine' Way.yes 7 (by rfl) (by kernel_rfl) (by rfl) (fun wS hS => ?_) ?_
           rotate_left
           · have hS' := (SD.out _).1 hS
             have k0 := str_of_RB (HR.out.below hS') cap0; have k1 := str_of_RB (HC.out.below hS') cap1
             go_simp
             first
               | exact ⟨rfl, Below.refl _ _⟩
           simp only [Act.put, List.setIfInBounds_toArray, List.set_cons_zero, List.set_cons_succ])
      first
        | (refine Way.no 8 (by rfl) (by kernel_rfl) (by rfl) ?_; simp only [Act.put, List.setIfInBounds_toArray, List.set_cons_zero, List.set_cons_succ])
        | (refine' Way.yes 8 (by rfl) (by kernel_rfl) (by rfl) (fun wS hS => ?_) ?_
           rotate_left
           · have hS' := (SD.out _).1 hS
             have k0 := str_of_RB (HR.out.below hS') cap0; have k1 := str_of_RB (HC.out.below hS') cap1
             go_simp
             first
               | exact ⟨rfl, Below.refl _ _⟩
           simp only [Act.put, List.setIfInBounds_toArray, List.set_cons_zero, List.set_cons_succ])
      first
        | (refine Way.no 9 (by rfl) (by kernel_rfl) (by rfl) ?_; simp only [Act.put, List.setIfInBounds_toArray, List.set_cons_zero, List.set_cons_succ])
        | (refine' Way.yes 9 (by rfl) (by kernel_rfl) (by rfl) (fun wS hS => ?_) ?_
           rotate_left
           · have hS' := (SD.out _).1 hS
             have k0 := str_of_RB (HR.out.below hS') cap0; have k1 := str_of_RB (HC.out.below hS') cap1
             go_simp
             first
               | exact ⟨rfl, Below.refl _ _⟩
           simp only [Act.put, List.setIfInBounds_toArray, List.set_cons_zero, List.set_cons_succ])
      first
        | (refine Way.no 10 (by rfl) (by kernel_rfl) (by rfl) ?_; simp only [Act.put, List.setIfInBounds_toArray, List.set_cons_zero, List.set_cons_succ])
        | (refine' Way.yes 10 (by rfl) (by kernel_rfl) (by rfl) (fun wS hS => ?_) ?_
           rotate_left
           · have hS' := (SD.out _).1 hS
             have k0 := str_of_RB (HR.out.below hS') cap0; have k1 := str_of_RB (HC.out.below hS') cap1
             go_simp
             first
               | exact ⟨rfl, Below.refl _ _⟩
           simp only [Act.put, List.setIfInBounds_toArray, List.set_cons_zero, List.set_cons_succ])
      first
        | (refine Way.no 11 (by rfl) (by kernel_rfl) (by rfl) ?_; simp only [Act.put, List.setIfInBounds_toArray, List.set_cons_zero, List.set_cons_succ])
        | (refine' Way.yes 11 (by rfl) (by kernel_rfl) (by rfl) (fun wS hS => ?_) ?_
           rotate_left
           · have hS' := (SD.out _).1 hS
             have k0 := str_of_RB (HR.out.below hS') cap0; have k1 := str_of_RB (HC.out.below hS') cap1
             go_simp
             first
               | exact ⟨rfl, Below.refl _ _⟩
           simp only [Act.put, List.setIfInBounds_toArray, List.set_cons_zero, List.set_cons_succ])
      first
        | (refine Way.no 12 (by rfl) (by kernel_rfl) (by rfl) ?_; simp only [Act.put, List.setIfInBounds_toArray, List.set_cons_zero, List.set_cons_succ])
        | (refine' Way.yes 12 (by rfl) (by kernel_rfl) (by rfl) (fun wS hS => ?_) ?_
           rotate_left
           · have hS' := (SD.out _).1 hS
             have k0 := str_of_RB (HR.out.below hS') cap0; have k1 := str_of_RB (HC.out.below hS') cap1
             go_simp
             first
               | exact ⟨rfl, Below.refl _ _⟩
           simp only [Act.put, List.setIfInBounds_toArray, List.set_cons_zero, List.set_cons_succ])
      refine Way.move 13 (by rfl) (by kernel_rfl) (by rfl) (fun wA hS => ?_)
      have hA := (SD.out _).1 hS
      go_simp
      simp only [MGives_enter]
      refine (HRE.out _).mono ?_
      rintro e wB ⟨v, rfl, hown, hb⟩
      refine ⟨_, rfl, ?_⟩
      refine Moved.keep S (fun W W' h hb => (SD.out _).2 (keepb ((SD.out _).1 h) hb)) (fun x h => h) ((SD.out _).2 (keepb hA hb)) ?_
      clear hown hb hA hS
      first
        | (refine Way.no 14 (by rfl) (by kernel_rfl) (by rfl) ?_; simp only [Act.put, List.setIfInBounds_toArray, List.set_cons_zero, List.set_cons_succ])
        | (refine' Way.yes 14 (by rfl) (by kernel_rfl) (by rfl) (fun wS hS => ?_) ?_
           rotate_left
           · have hS' := (SD.out _).1 hS
             have k0 := str_of_RB (HR.out.below hS') cap0; have k1 := str_of_RB (HC.out.below hS') cap1
             go_simp
             first
               | exact ⟨rfl, Below.refl _ _⟩
           simp only [Act.put, List.setIfInBounds_toArray, List.set_cons_zero, List.set_cons_succ])
      first
        | (refine Way.no 15 (by rfl) (by kernel_rfl) (by rfl) ?_; simp only [Act.put, List.setIfInBounds_toArray, List.set_cons_zero, List.set_cons_succ])
        | (refine' Way.yes 15 (by rfl) (by kernel_rfl) (by rfl) (fun wS hS => ?_) ?_
           rotate_left
           · have hS' := (SD.out _).1 hS
             have k0 := str_of_RB (HR.out.below hS') cap0; have k1 := str_of_RB (HC.out.below hS') cap1
             go_simp
             first
               | exact ⟨rfl, Below.refl _ _⟩
           simp only [Act.put, List.setIfInBounds_toArray, List.set_cons_zero, List.set_cons_succ])
      first
        | (refine Way.no 16 (by rfl) (by kernel_rfl) (by rfl) ?_; simp only [Act.put, List.setIfInBounds_toArray, List.set_cons_zero, List.set_cons_succ])
        | (refine' Way.yes 16 (by rfl) (by kernel_rfl) (by rfl) (fun wS hS => ?_) ?_
           rotate_left
           · have hS' := (SD.out _).1 hS
             have k0 := str_of_RB (HR.out.below hS') cap0; have k1 := str_of_RB (HC.out.below hS') cap1
             go_simp
             first
               | exact ⟨rfl, Below.refl _ _⟩
           simp only [Act.put, List.setIfInBounds_toArray, List.set_cons_zero, List.set_cons_succ])
      first
        | (refine Way.no 17 (by rfl) (by kernel_rfl) (by rfl) ?_; simp only [Act.put, List.setIfInBounds_toArray, List.set_cons_zero, List.set_cons_succ])
        | (refine' Way.yes 17 (by rfl) (by kernel_rfl) (by rfl) (fun wS hS => ?_) ?_
           rotate_left
           · have hS' := (SD.out _).1 hS
             have k0 := str_of_RB (HR.out.below hS') cap0; have k1 := str_of_RB (HC.out.below hS') cap1
             go_simp
             first
               | exact ⟨rfl, Below.refl _ _⟩
           simp only [Act.put, List.setIfInBounds_toArray, List.set_cons_zero, List.set_cons_succ])
      first
        | (refine Way.no 18 (by rfl) (by kernel_rfl) (by rfl) ?_; simp only [Act.put, List.setIfInBounds_toArray, List.set_cons_zero, List.set_cons_succ])
        | (refine' Way.yes 18 (by rfl) (by kernel_rfl) (by rfl) (fun wS hS => ?_) ?_
           rotate_left
           · have hS' := (SD.out _).1 hS
             have k0 := str_of_RB (HR.out.below hS') cap0; have k1 := str_of_RB (HC.out.below hS') cap1
             go_simp
             first
               | exact ⟨rfl, Below.refl _ _⟩
           simp only [Act.put, List.setIfInBounds_toArray, List.set_cons_zero, List.set_cons_succ])
      refine Way.done (by kernel_rfl) (fun wE hS => ?_)
      have BE := Lib.hid ((SD.out _).1 hS)
      clear hS SD
      go_wp2_with fail
      go_ret
      exact ⟨rfl, BE.out⟩
end Go.Proofs.YtgmholdkdppbmaaGreatDoor.lexEquals
