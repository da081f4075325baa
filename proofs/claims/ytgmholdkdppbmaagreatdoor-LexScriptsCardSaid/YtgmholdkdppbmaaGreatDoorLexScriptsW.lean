/- LexScripts: the walk. -/
import Derived.Test.YtgmholdkdppbmaaGreatDoorLexGAE
import Derived.Test.YtgmholdkdppbmaaGreatDoorLexGAK
import Derived.Test.YtgmholdkdppbmaaGreatDoorLexGAL
import Derived.Test.YtgmholdkdppbmaaGreatDoorRows
namespace Go.Proofs.YtgmholdkdppbmaaGreatDoor.lexScripts
open Go.RowKit Go.Proofs.YtgmholdkdppbmaaGreatDoor.Lx
set_option linter.unusedSimpArgs false
set_option linter.unusedVariables false
attribute [local go_sem] SGives_value SGives_skip SGives_enter CGives_value CGives_skip CGives_enter
theorem refO_nil : refO [] false = ⟨[], 0, 0, 0, 0⟩ := by rw [(refO_run []).1]; rfl
set_option maxRecDepth 100000 in
set_option maxHeartbeats 16000000 in
theorem walk (a0 : Option Addr) (len0 cap0 : Nat) (K : Nat → Int) (A : Nat → Option Addr) (L C : Nat → Nat) (b : Nat → List UInt8) (w : World) (w0 : PO w w.heap.size a0 len0 K A L C b) (s0 : len0 ≤ 4398046511104) :
    Calls Tryz.prog 8 #[.slice a0 len0 cap0] w fun e w' => e = .returned (.bool true) ∧ Below w.heap.size w w' := by
  have HP := Lib.hid w0
  clear w0
  have hl0 : (len0 : Int) ≤ 4398046511104 := by omega
  go_enter Tryz.func8, Tryz.ntmps8
  go_wp2_with fail
  go_loop [3, 4] (fun n i => ∃ j : Nat, j ≤ len0 ∧ i = .int .i64 j ∧ n = .int .i64 (tot b j : Nat) ∧ tot b j ≤ 140739635838976) (fun _ i => len0 - (intOf i).toNat)
  case atStart => exact ⟨0, by omega, rfl, rfl, by simp [tot, cat_zero]⟩
  case round =>
    obtain ⟨j, hj, rfl, rfl, htb⟩ := hrel
    by_cases hbig : 2147483647 < tot b j
    · have HB := Lib.hid (fun W => beyond_any (tot b j) W (by omega))
      rw [show decide (2147483647 < tot b j) = true by simpa using hbig] at HB
      generalize tot b j = n at *
      clear hbig htb
      by_cases hlt : j < len0
      · go_wp2_with fail
        refine (HB.out _).mono ?_
        rintro e w' ⟨rfl, rfl⟩
        go_wp2_with fail
        refine (HB.out _).mono ?_
        rintro e w' ⟨rfl, rfl⟩
        go_wp2_with fail
        go_ret
        exact ⟨rfl, Below.refl _ _⟩
      · go_wp2_with fail
        refine (HB.out _).mono ?_
        rintro e w' ⟨rfl, rfl⟩
        go_wp2_with fail
        go_ret
        exact ⟨rfl, Below.refl _ _⟩
    · have HB := Lib.hid (fun W => beyond_any (tot b j) W (by omega))
      rw [show decide (2147483647 < tot b j) = false by simpa using hbig] at HB
      by_cases hlt : j < len0
      · obtain ⟨g, o, rfl, hg, hc⟩ := HP.out.2 (by omega)
        obtain ⟨hcK, hcS⟩ := hc j hlt
        obtain ⟨hrb, hlc, hcm, _⟩ := HP.out.1 j hlt
        have hll := hrb.1
        have hts := tot_succ b j
        rw [hll] at hts
        have HTS := Lib.hid hts
        have hlb : L j ≤ 140737488351232 := by omega
        have hnb : tot b j ≤ 2147483647 := by omega
        clear hc hcK hrb hts hll hbig hlc hcm htb
        generalize tot b j = n at *
        generalize L j = l at *
        go_wp2_with fail
        refine (HB.out _).mono ?_
        rintro e w' ⟨rfl, rfl⟩
        go_wp2_with fail
        go_round
        case rel => exact ⟨j + 1, by omega, by go_num, by rw [HTS.out]; go_num, by rw [HTS.out]; omega⟩
        case measure => simp [intOf]; omega
      · obtain rfl : j = len0 := by omega
        have htl : ∀ i, i ≤ j → (cat b i).length ≤ 2147483647 := by
          intro i hi
          have := cat_mono b i j hi
          unfold tot at hbig
          omega
        have HTL := Lib.hid htl
        clear htl hbig htb hlt hj
        generalize tot b j = n at *
        by_cases h3 : 3000 < j
        · have t3 : decide ((3000 : Int) < (j : Int)) = true := decide_eq_true (by omega)
          go_wp2_with fail
          refine (HB.out _).mono ?_
          rintro e w' ⟨rfl, rfl⟩
          go_wp2_with fail
          go_ret
          exact ⟨rfl, Below.refl _ _⟩
        have t3 : decide ((3000 : Int) < (j : Int)) = false := decide_eq_false (by omega)
        have HR0 : Hid (∀ W, Calls Tryz.prog 12 #[.string ⟨#[]⟩, .bool false] W (OtE (refO [] false) W)) := Lib.hid (fun W => rRead_any [] false W (by simp))
        unfold OtE at HR0
        go_wp2_with fail
        refine (HB.out _).mono ?_
        rintro e w' ⟨rfl, rfl⟩
        go_wp2_with fail
        refine (one_new (w0 := w) (Nat.le_refl _)).mono ?_
        rintro e w1 ⟨rfl, o1, b1⟩
        obtain ⟨h, hh⟩ : ∃ h, w.heap.size = h := ⟨_, rfl⟩
        have X1 := Lib.hid o1
        have B1 := Lib.hid b1
        have HH := Lib.hid hh
        rw [hh] at X1 ⊢
        clear o1 b1 hh h3 t3 HB
        go_wp2_with fail
        refine (HR0.out _).mono ?_
        rintro e w2 ⟨v, rfl, hown, b2⟩
        clear HR0
        rw [refO_nil] at hown ⊢
        obtain ⟨A1, c1, rfl, _⟩ := own_shape9 hown
        have X2 : Hid (ScF (fun x => x = w2.heap.size ∨ (Value.slice A1 0 c1).ownBlock = some x) w (w2.alloc (.cells (otC (.slice A1 0 c1) ⟨[], 0, 0, 0, 0⟩) 32)) h w2.heap.size [] false 0 (refO [] false) (.slice A1 0 c1)) := Lib.hid (by
          have hs := b2.size
          have hs1 := B1.out.size
          have hbA : Below w1.heap.size w1 (w2.alloc (.cells (otC (.slice A1 0 c1) ⟨[], 0, 0, 0, 0⟩) 32)) := b2.alloc hs _
          rw [refO_nil]
          refine ⟨X1.out.forbid.more hbA (fun x hx => .inr ?_), Blk.new _ _ _, ⟨_, hown.alloc _⟩, .inl rfl, fun k hk => .inr hk, by omega, B1.out.trans (hbA.mono hs1)⟩
          rcases hx with rfl | hx
          · exact ⟨hs, by simp⟩
          · have := hown.lt x hx
            exact ⟨this.1, by simp; omega⟩)
        unfold otC at X2
        go_wp2_with fail
        generalize w2.alloc (.cells #[.slice A1 0 c1, .int .i64 ((0 : Nat) : Int), .int .i64 ((0 : Nat) : Int), .int .i64 ((0 : Nat) : Int), .int .i64 ((0 : Nat) : Int)] 32) = W1 at *
        obtain ⟨gb, hgb⟩ : ∃ g, w2.heap.size = g := ⟨_, rfl⟩
        rw [hgb] at X2 ⊢
        clear hgb hown b2 X1 B1
        unfold outV
        rw [show (((0 : Nat) : Int)) = 0 from rfl]

        go_loopw [6, 7, 8, 10] (fun c en t i wr => ∃ (q t' : Nat) (s : List UInt8) (e' : Bool) (v : Value), c = .string ⟨s.toArray⟩ ∧ en = .bool e' ∧ t = .int .i64 (t' : Nat) ∧ i = .int .i64 (q : Nat) ∧ q ≤ j ∧ s.length ≤ (cat b q).length ∧
          ScF (fun x => x = gb ∨ v.ownBlock = some x) w wr h gb s e' t' (refO s e') v) (fun _ _ _ i _ => j - (intOf i).toNat)
        case atStart => exact ⟨0, 0, [], false, _, rfl, rfl, rfl, rfl, Nat.zero_le _, Nat.zero_le _, X2.out⟩
        case round =>
          clear X2
          obtain ⟨q, t', s, e', v, rfl, rfl, rfl, rfl, hq, hsl, hsc⟩ := hrel
          obtain ⟨o, ho⟩ : ∃ o, refO s e' = o := ⟨_, rfl⟩
          rw [ho] at hsc
          obtain ⟨A1, c1, rfl⟩ := hsc.shape
          have hol := refO_len s e'
          have hot := refO_term s e'
          have htl := hsc.lx.one
          have hbd := HTL.out q hq
          rw [ho] at hol hot
          have htn : t' ≤ o.toks.length := by obtain ⟨_, _, _, _, h4⟩ := htl; rw [ho] at h4; exact h4
          obtain ⟨n, hn⟩ : ∃ n, o.toks.length = n := ⟨_, rfl⟩
          rw [hn] at hsc hol htn
          have HN := Lib.hid hn
          have HO := Lib.hid ho
          have HOT := Lib.hid hot
          have SC := Lib.hid hsc
          have HSL := Lib.hid hsl
          have hnb : n ≤ 2147483647 := by omega
          have HTE := Lib.hid (fun W => tells_any (.slice A1 n c1) o.no o.pos o.found o.held W ⟨_, _, _, rfl⟩)
          clear hsc hol hot hn ho htl hsl
          rcases Nat.lt_or_ge q j with hlt | hge
          · obtain ⟨g, oo, rfl, hg, hc⟩ := (HP.out.keep SC.out.bel).2 (by omega)
            obtain ⟨hcK, hcS⟩ := hc q hlt
            obtain ⟨hrb, hlc, hcm, hwf⟩ := HP.out.1 q hlt
            have hbk := bounds_i64 hwf
            have hcs := cat_succ b q
            have hbd2 := HTL.out (q + 1) hlt
            rw [hcs, List.length_append] at hbd2
            have hbl := hrb.1
            have HCS : Hid ((cat b (q + 1)).length = (cat b q).length + (b q).length) := Lib.hid (by rw [hcs, List.length_append])
            clear hcs hc hwf
            generalize hK : K q = kk at *
            generalize hA : A q = aj at *
            generalize hL : L q = lj at *
            generalize hC : C q = cj at *
            generalize hB : b q = bj at *
            clear hK hA hL hC hB
            have HRB := Lib.hid hrb
            have HLJ := Lib.hid hbl
            have hlj : lj ≤ 2147483647 := by omega
            have hlt2 : (q : Int) < (j : Int) := by omega
            have HLT := Lib.hid hlt
            have HQ := Lib.hid (Blk.new wr 66 #[.int .i64 kk, .slice aj lj cj])
            have SC1 : Hid (ScF (fun x => (x = gb ∨ (Value.slice A1 n c1).ownBlock = some x) ∨ x = wr.heap.size) w (wr.alloc (.cells #[.int .i64 kk, .slice aj lj cj] 66)) h gb s e' t' o (.slice A1 n c1)) := Lib.hid (SC.out.more ((Below.refl wr.heap.size wr).alloc (Nat.le_refl _) _) (fun x hx => by
              rcases hx with hx | rfl
              · exact .inl hx
              · exact .inr ⟨Nat.le_refl _, by simp⟩) (fun x hx => .inl hx))
            clear hrb hbl hlt hg SC
            by_cases k0 : kk = 0
            · subst k0
              go_wp2_with fail
              generalize wr.alloc (.cells #[.int .i64 0, .slice aj lj cj] 66) = W at *
              obtain ⟨qb, hqb⟩ : ∃ g, wr.heap.size = g := ⟨_, rfl⟩
              rw [hqb] at HQ SC1 ⊢
              clear hqb
              refine (roomy_any aj lj cj w.heap.size bj W (HRB.out.below SC1.out.bel) SC1.out.bel.size (by omega)).mono ?_
              rintro e wA ⟨rfl, hroom, hbA⟩
              obtain ⟨g2, hg2⟩ : ∃ g, W.heap.size = g := ⟨_, rfl⟩
              have HG0 : Hid (w.heap.size ≤ g2) := Lib.hid (by rw [← hg2]; exact SC1.out.bel.size)
              have HG1 : Hid (g2 ≠ gb) := Lib.hid (fun e => by have := SC1.out.box.lt; omega)
              have HG2 : Hid ((Value.slice A1 n c1).ownBlock ≠ some g2) := Lib.hid (fun e => by obtain ⟨B, hB⟩ := SC1.out.row; have := own_lt hB g2 e; omega)
              have HG3 : Hid (qb ≠ g2) := Lib.hid (fun e => by have := HQ.out.lt; omega)
              rw [hg2] at hroom ⊢
              have hgA : g2 < wA.heap.size := Blk.lt hroom
              have SCA : Hid (ScF (fun x => ((x = gb ∨ (Value.slice A1 n c1).ownBlock = some x) ∨ x = qb) ∨ x = g2) w wA h gb s e' t' o (.slice A1 n c1)) := Lib.hid (SC1.out.more hbA (fun x hx => by
                rcases hx with hx | rfl
                · exact .inl hx
                · exact .inr ⟨by omega, hgA⟩) (fun x hx => .inl hx))
              have HQA := Lib.hid (HQ.out.below hbA HQ.out.lt)
              have ROOM := Lib.hid hroom
              clear hroom hbA hg2 SC1 HQ
              go_wp2_with fail
              by_cases h0 : o.no = 0
              · cases e' with
                | true =>
                  have FD := Lib.hid (one_feed_done SCA.out.lx.one (some ⟨g2, 0, none⟩) lj (lj + 2) (by rw [HO.out]; exact h0))
                  have e0 : ((o.no : Int) != 0) = false := by simp; omega
                  clear h0
                  refine FD.out.mono ?_
                  rintro e wB ⟨rfl, rfl⟩
                  have SCB := SCA
                  have HQB := HQA
                  have ROOMB := ROOM
                  clear SCA HQA ROOM FD
                  have q1 := HQB.out.cell 1
                  simp at q1
                  go_wp2_with fail
                  clear q1
                  refine (left_yes g2 lj cj w.heap.size aj bj wA ROOMB.out (HRB.out.below SCB.out.bel) (by omega)).mono ?_
                  rintro e wC ⟨rfl, hbC⟩
                  have SCC := Lib.hid (SCB.out.below hbC)
                  have HQC := Lib.hid (HQB.out.below hbC HQB.out.lt)
                  have BGC : Hid (∃ cs, Blk wC g2 5 cs ∧ cs.size = lj + 2) := Lib.hid ⟨_, ROOMB.out.below hbC ROOMB.out.lt, by simp; have := HLJ.out; omega⟩
                  clear hbC SCB HQB ROOMB
                  go_wp2_with fail
                  go_loopw [14] (fun i wx => ∃ (r : Nat) (cs : Array Value), i = .int .i64 (r : Nat) ∧ r ≤ lj ∧ Blk wx g2 5 cs ∧ cs.size = lj + 2 ∧ ScF (fun x => ((x = gb ∨ (Value.slice A1 n c1).ownBlock = some x) ∨ x = qb) ∨ x = g2) w wx h gb s true t' o (.slice A1 n c1) ∧ Blk wx qb 66 #[.int .i64 0, .slice aj lj cj]) (fun i _ => lj - (intOf i).toNat)
                  case atStart => obtain ⟨cs, h1, h2⟩ := BGC.out; exact ⟨0, cs, rfl, Nat.zero_le _, h1, h2, SCC.out, HQC.out⟩
                  case round =>
                    clear SCC HQC BGC
                    obtain ⟨r, cs, rfl, hr, hbg, hcz, hsc, hbq⟩ := hrel
                    have SCL := Lib.hid hsc
                    have HQL := Lib.hid hbq
                    have HBG := Lib.hid hbg
                    have HCZ := Lib.hid hcz
                    clear hsc hbq
                    rcases Nat.lt_or_ge r lj with hrl | hrl
                    · have hrI : (r : Int) < (lj : Int) := by omega
                      have hc0 := hbg.cell r
                      rw [Array.getElem?_eq_getElem (by omega)] at hc0
                      have f0 := hbg.frozen r
                      generalize cs[r] = cv at *
                      have HRL := Lib.hid hrl
                      clear hbg hcz hr hrl
                      go_wp2_with fail
                      go_roundw
                      case rel => exact ⟨r + 1, _, by go_num, by have := HRL.out; omega, HBG.out.set1 r _, by simp [HCZ.out], SCL.out.wrote ((Fr.refl (fun j => j = g2) _).setCell (p := ⟨g2, r, none⟩) rfl _) (.inr rfl) HG0.out HG1.out HG2.out, HQL.out.far (p := ⟨g2, r, none⟩) (fun e => by have := HG3.out; exact this e) _⟩
                      case measure => have := HRL.out; simp [intOf]; omega
                    · obtain rfl : r = lj := by omega
                      clear hbg hcz hr hrl HBG HCZ
                      obtain ⟨n0, n1, n2, n3, n4⟩ := cells5 SCL.out.box
                      go_wp2_with fail
                      clear n0 n1 n2 n3 n4
                      refine (errno_yes 96 _).mono ?_
                      rintro e wT ⟨rfl, rfl⟩
                      have SCT := Lib.hid (SCL.out.less (fun _ hj => .inl (.inl hj)) (.inl rfl) (fun _ hk => .inr hk))
                      clear SCL
                      go_wp2_with fail

                      go_roundw
                      case rel => exact ⟨q + 1, t', s, true, _, rfl, rfl, by first | rfl | go_num, by go_num, by have := HLT.out; omega, by rw [HCS.out]; have := HSL.out; have := HLJ.out; omega, by rw [HO.out]; exact SCT.out⟩
                      case measure => have := HLT.out; simp [intOf]; omega
                | false =>
                  have FD := Lib.hid (sc_feed SCA.out (.inr rfl) lj (lj + 2) (g2 + 1) bj (RoomB.holds ROOM.out HLJ.out).1 hgA (by omega))
                  have e0 : ((o.no : Int) != 0) = false := by simp; omega
                  clear h0
                  refine FD.out.mono ?_
                  rintro e wB ⟨rfl, hsc, hgg⟩
                  have SCB := Lib.hid hsc
                  have HQB : Hid (Blk wB qb 66 #[.int .i64 0, .slice aj lj cj]) := Lib.hid ((hgg qb (.inl (.inr rfl))).trans HQA.out)
                  have ROOMB : Hid (RoomB wB g2 bj) := Lib.hid ((hgg g2 (.inr rfl)).trans ROOM.out)
                  clear SCA HQA ROOM FD hsc hgg
                  obtain ⟨o2, ho2⟩ : ∃ o2, refO (s ++ bj) false = o2 := ⟨_, rfl⟩
                  rw [ho2]
                  have HO2 := Lib.hid ho2
                  have HRD := Lib.hid (fun W => rRead_any (s ++ bj) false W (by rw [List.length_append]; have := HLJ.out; have := HSL.out; omega))
                  rw [ho2] at HRD
                  unfold OtE at HRD
                  clear ho2
                  have q1 := HQB.out.cell 1
                  simp at q1
                  go_wp2_with fail
                  clear q1
                  refine (left_yes g2 lj cj w.heap.size aj bj wB ROOMB.out (HRB.out.below SCB.out.bel) (by omega)).mono ?_
                  rintro e wC ⟨rfl, hbC⟩
                  have SCC := Lib.hid (SCB.out.below hbC)
                  have HQC := Lib.hid (HQB.out.below hbC HQB.out.lt)
                  have BGC : Hid (∃ cs, Blk wC g2 5 cs ∧ cs.size = lj + 2) := Lib.hid ⟨_, ROOMB.out.below hbC ROOMB.out.lt, by simp; have := HLJ.out; omega⟩
                  clear hbC SCB HQB ROOMB
                  go_wp2_with fail
                  go_loopw [14] (fun i wx => ∃ (r : Nat) (cs : Array Value), i = .int .i64 (r : Nat) ∧ r ≤ lj ∧ Blk wx g2 5 cs ∧ cs.size = lj + 2 ∧ ScF (fun x => ((x = gb ∨ (Value.slice A1 n c1).ownBlock = some x) ∨ x = qb) ∨ x = g2) w wx h gb (s ++ bj) false t' o (.slice A1 n c1) ∧ Blk wx qb 66 #[.int .i64 0, .slice aj lj cj]) (fun i _ => lj - (intOf i).toNat)
                  case atStart => obtain ⟨cs, h1, h2⟩ := BGC.out; exact ⟨0, cs, rfl, Nat.zero_le _, h1, h2, SCC.out, HQC.out⟩
                  case round =>
                    clear SCC HQC BGC
                    obtain ⟨r, cs, rfl, hr, hbg, hcz, hsc, hbq⟩ := hrel
                    have SCL := Lib.hid hsc
                    have HQL := Lib.hid hbq
                    have HBG := Lib.hid hbg
                    have HCZ := Lib.hid hcz
                    clear hsc hbq
                    rcases Nat.lt_or_ge r lj with hrl | hrl
                    · have hrI : (r : Int) < (lj : Int) := by omega
                      have hc0 := hbg.cell r
                      rw [Array.getElem?_eq_getElem (by omega)] at hc0
                      have f0 := hbg.frozen r
                      generalize cs[r] = cv at *
                      have HRL := Lib.hid hrl
                      clear hbg hcz hr hrl
                      go_wp2_with fail
                      go_roundw
                      case rel => exact ⟨r + 1, _, by go_num, by have := HRL.out; omega, HBG.out.set1 r _, by simp [HCZ.out], SCL.out.wrote ((Fr.refl (fun j => j = g2) _).setCell (p := ⟨g2, r, none⟩) rfl _) (.inr rfl) HG0.out HG1.out HG2.out, HQL.out.far (p := ⟨g2, r, none⟩) (fun e => by have := HG3.out; exact this e) _⟩
                      case measure => have := HRL.out; simp [intOf]; omega
                    · obtain rfl : r = lj := by omega
                      clear hbg hcz hr hrl HBG HCZ
                      obtain ⟨n0, n1, n2, n3, n4⟩ := cells5 SCL.out.box
                      have q1 := HQL.out.cell 1
                      simp at q1
                      have kst := str_of_RB (HRB.out.below SCL.out.bel) cj
                      have hsz : (s.length : Int) + (bj.length : Int) ≤ 2147483647 := by have := HSL.out; omega
                      have hap : ((⟨s.toArray⟩ : ByteArray) ++ ⟨bj.toArray⟩) = ⟨(s ++ bj).toArray⟩ := by rw [ByteArray.mk_append_mk]
                      have HAP := Lib.hid hap
                      clear hap
                      go_wp2_with fail
                      clear n0 n1 n2 n3 n4 q1 kst
                      rw [HAP.out]
                      refine (HRD.out _).mono ?_
                      rintro e wR ⟨v2, rfl, hown2, hbR⟩
                      obtain ⟨A2, c2, rfl, _⟩ := own_shape9 hown2
                      have SCV := Lib.hid (SCL.out.put hbR hown2)
                      have HBX := Lib.hid (SCL.out.box.below hbR SCL.out.box.lt)
                      clear hown2 hbR SCL
                      unfold outV
                      simp only []
                      go_step
                      refine wpList_store5 rfl (.tmp 9) (.tmp 102) rfl rfl gb rfl A2 o2.toks.length c2 (o2.no : Nat) (o2.pos : Nat) (o2.found : Nat) (o2.held : Nat) rfl HBX.out ?_
                      generalize set5 wR gb (.slice A2 o2.toks.length c2) (.int .i64 (o2.no : Nat)) (.int .i64 (o2.pos : Nat)) (.int .i64 (o2.found : Nat)) (.int .i64 (o2.held : Nat)) = V at *
                      clear HBX
                      obtain ⟨n0, n1, n2, n3, n4⟩ := cells5 SCV.out.box
                      go_wp2_with fail
                      clear n0 n1 n2 n3 n4
                      refine (tells_any (.slice A2 o2.toks.length c2) o2.no o2.pos o2.found o2.held V ⟨_, _, _, rfl⟩).mono ?_
                      rintro e wT ⟨rfl, hbT⟩
                      have SCT := Lib.hid (SCV.out.below hbT)
                      clear hbT SCV
                      go_wp2_with fail

                      go_roundw
                      case rel => exact ⟨q + 1, t', s ++ bj, false, _, rfl, rfl, by first | rfl | go_num, by go_num, by have := HLT.out; omega, by rw [HCS.out]; have := HSL.out; have := HLJ.out; rw [List.length_append]; omega, by rw [HO2.out]; exact SCT.out⟩
                      case measure => have := HLT.out; simp [intOf]; omega
              · have FD := Lib.hid (one_feed_err SCA.out.lx.one (some ⟨g2, 0, none⟩) lj (lj + 2) (by rw [HO.out]; exact h0))
                rw [HO.out] at FD
                have e0 : ((o.no : Int) != 0) = true := by simp; omega
                clear h0
                refine FD.out.mono ?_
                rintro e wB ⟨rfl, rfl⟩
                have SCB := SCA
                have HQB := HQA
                have ROOMB := ROOM
                clear SCA HQA ROOM FD
                have q1 := HQB.out.cell 1
                simp at q1
                go_wp2_with fail
                clear q1
                refine (left_yes g2 lj cj w.heap.size aj bj wA ROOMB.out (HRB.out.below SCB.out.bel) (by omega)).mono ?_
                rintro e wC ⟨rfl, hbC⟩
                have SCC := Lib.hid (SCB.out.below hbC)
                have HQC := Lib.hid (HQB.out.below hbC HQB.out.lt)
                have BGC : Hid (∃ cs, Blk wC g2 5 cs ∧ cs.size = lj + 2) := Lib.hid ⟨_, ROOMB.out.below hbC ROOMB.out.lt, by simp; have := HLJ.out; omega⟩
                clear hbC SCB HQB ROOMB
                go_wp2_with fail
                go_loopw [14] (fun i wx => ∃ (r : Nat) (cs : Array Value), i = .int .i64 (r : Nat) ∧ r ≤ lj ∧ Blk wx g2 5 cs ∧ cs.size = lj + 2 ∧ ScF (fun x => ((x = gb ∨ (Value.slice A1 n c1).ownBlock = some x) ∨ x = qb) ∨ x = g2) w wx h gb s e' t' o (.slice A1 n c1) ∧ Blk wx qb 66 #[.int .i64 0, .slice aj lj cj]) (fun i _ => lj - (intOf i).toNat)
                case atStart => obtain ⟨cs, h1, h2⟩ := BGC.out; exact ⟨0, cs, rfl, Nat.zero_le _, h1, h2, SCC.out, HQC.out⟩
                case round =>
                  clear SCC HQC BGC
                  obtain ⟨r, cs, rfl, hr, hbg, hcz, hsc, hbq⟩ := hrel
                  have SCL := Lib.hid hsc
                  have HQL := Lib.hid hbq
                  have HBG := Lib.hid hbg
                  have HCZ := Lib.hid hcz
                  clear hsc hbq
                  rcases Nat.lt_or_ge r lj with hrl | hrl
                  · have hrI : (r : Int) < (lj : Int) := by omega
                    have hc0 := hbg.cell r
                    rw [Array.getElem?_eq_getElem (by omega)] at hc0
                    have f0 := hbg.frozen r
                    generalize cs[r] = cv at *
                    have HRL := Lib.hid hrl
                    clear hbg hcz hr hrl
                    go_wp2_with fail
                    go_roundw
                    case rel => exact ⟨r + 1, _, by go_num, by have := HRL.out; omega, HBG.out.set1 r _, by simp [HCZ.out], SCL.out.wrote ((Fr.refl (fun j => j = g2) _).setCell (p := ⟨g2, r, none⟩) rfl _) (.inr rfl) HG0.out HG1.out HG2.out, HQL.out.far (p := ⟨g2, r, none⟩) (fun e => by have := HG3.out; exact this e) _⟩
                    case measure => have := HRL.out; simp [intOf]; omega
                  · obtain rfl : r = lj := by omega
                    clear hbg hcz hr hrl HBG HCZ
                    obtain ⟨n0, n1, n2, n3, n4⟩ := cells5 SCL.out.box
                    go_wp2_with fail
                    clear n0 n1 n2 n3 n4
                    refine (HTE.out _).mono ?_
                    rintro e wT ⟨rfl, hbT⟩
                    have SCT := Lib.hid ((SCL.out.below hbT).less (fun _ hj => .inl (.inl hj)) (.inl rfl) (fun _ hk => .inr hk))
                    clear hbT SCL
                    go_wp2_with fail

                    go_roundw
                    case rel => exact ⟨q + 1, t', s, e', _, rfl, rfl, by first | rfl | go_num, by go_num, by have := HLT.out; omega, by rw [HCS.out]; have := HSL.out; have := HLJ.out; omega, by rw [HO.out]; exact SCT.out⟩
                    case measure => have := HLT.out; simp [intOf]; omega
            · by_cases k1 : kk = 1
              · subst k1
                clear HQ k0
                rcases Nat.lt_or_ge t' n with htl | htl
                · obtain ⟨tk, htk⟩ : ∃ tk, o.toks[t']? = some tk := ⟨_, List.getElem?_eq_getElem (by rw [HN.out]; exact htl)⟩
                  have htm := HOT.out tk (List.mem_of_getElem? htk)
                  obtain ⟨ka, kb, kc, kd, ke, hr⟩ := tok_cells (t := tk)
                  have HS := Lib.hid (fun W => same_any tk htm W)
                  rw [hr] at HS
                  have HNX := Lib.hid (sc_next SC1.out tk (by rw [HO.out]; exact htk))
                  obtain ⟨ty, u, htv⟩ : ∃ ty u, tokV tk = .iface ty u := by unfold tokV; cases tk.k <;> exact ⟨_, _, rfl⟩
                  rw [htv] at HNX HS
                  have HTK := Lib.hid htk
                  have HRR := Lib.hid hr
                  have t1 : decide ((t' : Int) < (n : Int)) = true := decide_eq_true (by omega)
                  have htI : (t' : Int) < (n : Int) := by omega
                  have HTL2 := Lib.hid htl
                  clear htk htm hr htv htl
                  go_wp2_with fail
                  refine HNX.out.mono ?_
                  rintro e wa ⟨rfl, hsc, _⟩
                  have SCA := Lib.hid hsc
                  obtain ⟨B, hB⟩ := hsc.row
                  obtain ⟨g3, d3, hv3, _, _⟩ := hB.form (by rw [HN.out]; exact Nat.lt_of_le_of_lt (Nat.zero_le _) HTL2.out)
                  injection hv3 with hA3 _ hc3
                  subst hA3 hc3
                  obtain ⟨x0, x1, x2, x3, x4⟩ := row5 (by rw [← HN.out] at hB; exact hB) HTK.out HRR.out
                  obtain ⟨n0, n1, n2, n3, n4⟩ := cells5 hsc.box
                  clear hsc hB HNX SC1
                  go_wp2_with fail
                  clear n0 n1 n2 n3 n4 x0 x1 x2 x3 x4
                  refine (HS.out _).mono ?_
                  rintro e wb ⟨rfl, hb⟩
                  have SCT := Lib.hid ((SCA.out.below hb).less (fun _ hj => .inl hj) (.inl rfl) (fun _ hk => .inr hk))
                  clear hb SCA
                  go_wp2_with fail
                  go_roundw
                  case rel => exact ⟨q + 1, t' + 1, s, e', _, rfl, rfl, by first | rfl | go_num, by go_num, by have := HLT.out; omega, by rw [HCS.out]; have := HSL.out; have := HLJ.out; omega, by rw [HO.out]; exact SCT.out⟩
                  case measure => have := HLT.out; simp [intOf]; omega
                · have t1 : decide ((t' : Int) < (n : Int)) = false := decide_eq_false (by omega)
                  have t1' : decide (t' < n) = false := decide_eq_false (by omega)
                  have htI : ¬ ((t' : Int) < (n : Int)) := by omega
                  have HNX := Lib.hid (sc_last SC1.out (by rw [HO.out, HN.out]; exact htl))
                  obtain ⟨n0, n1, n2, n3, n4⟩ := cells5 SC1.out.box
                  clear htl
                  go_wp2_with fail
                  refine HNX.out.mono ?_
                  rintro e wa ⟨rfl, rfl⟩
                  go_wp2_with fail
                  clear n0 n1 n2 n3 n4
                  have SCT := Lib.hid (SC1.out.less (fun _ hj => .inl hj) (.inl rfl) (fun _ hk => .inr hk))
                  clear SC1 HNX
                  go_roundw
                  case rel => exact ⟨q + 1, t', s, e', _, rfl, rfl, by first | rfl | go_num, by go_num, by have := HLT.out; omega, by rw [HCS.out]; have := HSL.out; have := HLJ.out; omega, by rw [HO.out]; exact SCT.out⟩
                  case measure => have := HLT.out; simp [intOf]; omega
              · have e0 : (kk == 0) = false := by simp; exact k0
                have e1 : (kk == 1) = false := by simp; exact k1
                by_cases k2 : kk = 2
                · subst k2
                  clear HQ k0 k1
                  by_cases h0 : o.no = 0
                  · have e3 : ((o.no : Int) != 0) = false := by simp; omega
                    obtain ⟨n0, n1, n2, n3, n4⟩ := cells5 SC1.out.box
                    go_upto_region 48 with fail
                    clear n0 n1 n2 n3 n4
                    obtain ⟨S, SD⟩ : ∃ S : World → Prop, Go.RowKit.Hid (∀ w' : World, S w' ↔ (ScF (fun x => (x = gb ∨ (Value.slice A1 n c1).ownBlock = some x) ∨ x = wr.heap.size) w w' h gb s e' t' o (.slice A1 n c1))) := ⟨_, Lib.hid (fun _ => Iff.rfl)⟩
                    refine wp_region_sure (S := S) (by kernel_rfl) (by kernel_rfl) ((SD.out _).2 (SC1.out.below (Below.refl _ _).drew)) ?_
                    repeat
                      (first
                        | (refine SureL.no (by rfl) ?_; simp only [Act.put, List.setIfInBounds_toArray, List.set_cons_zero, List.set_cons_succ])
                        | (refine' SureL.yes (by rfl) (fun wS hS => ?_) ?_
                           rotate_left
                           · have hS' := (SD.out _).1 hS
                             obtain ⟨n0, n1, n2, n3, n4⟩ := cells5 hS'.box
                             go_simp
                             first
                               | exact ⟨rfl, hS⟩
                               | (refine (one_place hS'.lx.one s.length (by rw [HO.out, if_pos h0])).mono ?_; rintro e w' ⟨rfl, rfl⟩; exact ⟨rfl, hS⟩)
                               | (refine (one_held hS'.lx.one o.held (by rw [HO.out])).mono ?_; rintro e w' ⟨rfl, hb⟩; exact ⟨rfl, (SD.out _).2 (hS'.below hb)⟩)
                           simp only [Act.put, List.setIfInBounds_toArray, List.set_cons_zero, List.set_cons_succ]))
                    refine SureL.nil ?_
                    intro wE hE
                    have SCT := Lib.hid (((SD.out _).1 hE).less (fun _ hj => .inl hj) (.inl rfl) (fun _ hk => .inr hk))
                    clear hE SD SC1
                    go_wp2_with fail

                    go_roundw
                    case rel => exact ⟨q + 1, t', s, e', _, rfl, rfl, by first | rfl | go_num, by go_num, by have := HLT.out; omega, by rw [HCS.out]; have := HSL.out; have := HLJ.out; omega, by rw [HO.out]; exact SCT.out⟩
                    case measure => have := HLT.out; simp [intOf]; omega
                  · have e3 : ((o.no : Int) != 0) = true := by simp; omega
                    obtain ⟨n0, n1, n2, n3, n4⟩ := cells5 SC1.out.box
                    go_upto_region 48 with fail
                    clear n0 n1 n2 n3 n4
                    obtain ⟨S, SD⟩ : ∃ S : World → Prop, Go.RowKit.Hid (∀ w' : World, S w' ↔ (ScF (fun x => (x = gb ∨ (Value.slice A1 n c1).ownBlock = some x) ∨ x = wr.heap.size) w w' h gb s e' t' o (.slice A1 n c1))) := ⟨_, Lib.hid (fun _ => Iff.rfl)⟩
                    refine wp_region_sure (S := S) (by kernel_rfl) (by kernel_rfl) ((SD.out _).2 (SC1.out.below (Below.refl _ _).drew)) ?_
                    repeat
                      (first
                        | (refine SureL.no (by rfl) ?_; simp only [Act.put, List.setIfInBounds_toArray, List.set_cons_zero, List.set_cons_succ])
                        | (refine' SureL.yes (by rfl) (fun wS hS => ?_) ?_
                           rotate_left
                           · have hS' := (SD.out _).1 hS
                             obtain ⟨n0, n1, n2, n3, n4⟩ := cells5 hS'.box
                             go_simp
                             first
                               | exact ⟨rfl, hS⟩
                               | (refine (one_place hS'.lx.one o.found (by rw [HO.out, if_neg h0])).mono ?_; rintro e w' ⟨rfl, rfl⟩; exact ⟨rfl, hS⟩)
                               | (refine (one_held hS'.lx.one o.held (by rw [HO.out])).mono ?_; rintro e w' ⟨rfl, hb⟩; exact ⟨rfl, (SD.out _).2 (hS'.below hb)⟩)
                           simp only [Act.put, List.setIfInBounds_toArray, List.set_cons_zero, List.set_cons_succ]))
                    refine SureL.nil ?_
                    intro wE hE
                    have SCT := Lib.hid (((SD.out _).1 hE).less (fun _ hj => .inl hj) (.inl rfl) (fun _ hk => .inr hk))
                    clear hE SD SC1
                    go_wp2_with fail

                    go_roundw
                    case rel => exact ⟨q + 1, t', s, e', _, rfl, rfl, by first | rfl | go_num, by go_num, by have := HLT.out; omega, by rw [HCS.out]; have := HSL.out; have := HLJ.out; omega, by rw [HO.out]; exact SCT.out⟩
                    case measure => have := HLT.out; simp [intOf]; omega
                · have e2 : (kk == 2) = false := by simp; exact k2
                  clear k0 k1 k2
                  clear HQ
                  by_cases h0 : o.no = 0
                  · have e3 : ((o.no : Int) != 0) = false := by simp; omega
                    cases e' with
                    | true =>
                      have FD := Lib.hid (one_end_done SC1.out.lx.one (by rw [HO.out]; exact h0))
                      obtain ⟨n0, n1, n2, n3, n4⟩ := cells5 SC1.out.box
                      clear h0
                      go_wp2_with fail
                      refine FD.out.mono ?_
                      rintro e wB ⟨rfl, rfl⟩
                      go_wp2_with fail
                      clear n0 n1 n2 n3 n4
                      refine (errno_yes 96 _).mono ?_
                      rintro e wT ⟨rfl, rfl⟩
                      have SCT := Lib.hid (SC1.out.less (fun _ hj => .inl hj) (.inl rfl) (fun _ hk => .inr hk))
                      clear SC1 FD
                      go_wp2_with fail
                      go_roundw
                      case rel => exact ⟨q + 1, t', s, true, _, rfl, rfl, by first | rfl | go_num, by go_num, by have := HLT.out; omega, by rw [HCS.out]; have := HSL.out; have := HLJ.out; omega, by rw [HO.out]; exact SCT.out⟩
                      case measure => have := HLT.out; simp [intOf]; omega
                    | false =>
                      have FD := Lib.hid (sc_end SC1.out)
                      obtain ⟨o2, ho2⟩ : ∃ o2, refO s true = o2 := ⟨_, rfl⟩
                      rw [ho2] at FD
                      have HO2 := Lib.hid ho2
                      have HRD := Lib.hid (fun W => rRead_any s true W (by have := HSL.out; omega))
                      rw [ho2] at HRD
                      unfold OtE at HRD
                      clear ho2 h0
                      go_wp2_with fail
                      refine FD.out.mono ?_
                      rintro e wB ⟨rfl, hsc, _⟩
                      have SCB := Lib.hid hsc
                      obtain ⟨n0, n1, n2, n3, n4⟩ := cells5 hsc.box
                      clear hsc FD SC1
                      go_wp2_with fail
                      clear n0 n1 n2 n3 n4
                      refine (HRD.out _).mono ?_
                      rintro e wR ⟨v2, rfl, hown2, hbR⟩
                      obtain ⟨A2, c2, rfl, _⟩ := own_shape9 hown2
                      have SCV := Lib.hid (SCB.out.put hbR hown2)
                      have HBX := Lib.hid (SCB.out.box.below hbR SCB.out.box.lt)
                      clear hown2 hbR SCB
                      unfold outV
                      simp only []
                      go_step
                      refine wpList_store5 rfl (.tmp 9) (.tmp 181) rfl rfl gb rfl A2 o2.toks.length c2 (o2.no : Nat) (o2.pos : Nat) (o2.found : Nat) (o2.held : Nat) rfl HBX.out ?_
                      generalize set5 wR gb (.slice A2 o2.toks.length c2) (.int .i64 (o2.no : Nat)) (.int .i64 (o2.pos : Nat)) (.int .i64 (o2.found : Nat)) (.int .i64 (o2.held : Nat)) = V at *
                      clear HBX
                      obtain ⟨n0, n1, n2, n3, n4⟩ := cells5 SCV.out.box
                      go_wp2_with fail
                      clear n0 n1 n2 n3 n4
                      refine (tells_any (.slice A2 o2.toks.length c2) o2.no o2.pos o2.found o2.held V ⟨_, _, _, rfl⟩).mono ?_
                      rintro e wT ⟨rfl, hbT⟩
                      have SCT := Lib.hid (SCV.out.below hbT)
                      clear hbT SCV
                      go_wp2_with fail
                      go_roundw
                      case rel => exact ⟨q + 1, t', s, true, _, rfl, rfl, by first | rfl | go_num, by go_num, by have := HLT.out; omega, by rw [HCS.out]; have := HSL.out; have := HLJ.out; omega, by rw [HO2.out]; exact SCT.out⟩
                      case measure => have := HLT.out; simp [intOf]; omega
                  · have FD := Lib.hid (one_end_err SC1.out.lx.one (by rw [HO.out]; exact h0))
                    rw [HO.out] at FD
                    have e3 : ((o.no : Int) != 0) = true := by simp; omega
                    obtain ⟨n0, n1, n2, n3, n4⟩ := cells5 SC1.out.box
                    clear h0
                    go_wp2_with fail
                    refine FD.out.mono ?_
                    rintro e wB ⟨rfl, rfl⟩
                    go_wp2_with fail
                    clear n0 n1 n2 n3 n4
                    refine (HTE.out _).mono ?_
                    rintro e wT ⟨rfl, hbT⟩
                    have SCT := Lib.hid ((SC1.out.below hbT).less (fun _ hj => .inl hj) (.inl rfl) (fun _ hk => .inr hk))
                    clear hbT SC1 FD
                    go_wp2_with fail
                    go_roundw
                    case rel => exact ⟨q + 1, t', s, e', _, rfl, rfl, by first | rfl | go_num, by go_num, by have := HLT.out; omega, by rw [HCS.out]; have := HSL.out; have := HLJ.out; omega, by rw [HO.out]; exact SCT.out⟩
                    case measure => have := HLT.out; simp [intOf]; omega
          · obtain rfl : q = j := by omega
            clear hge
            go_wp2_with fail
            go_ret
            exact ⟨rfl, SC.out.bel⟩
end Go.Proofs.YtgmholdkdppbmaaGreatDoor.lexScripts
