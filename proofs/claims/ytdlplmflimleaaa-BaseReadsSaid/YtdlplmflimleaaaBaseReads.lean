/-
  Proved: 'BaseReads' answers true at every integer and every text: what is read, or why it is not, is the reference's answer; it lies in memory of its own, and is written so. No condition beyond the given values' own.
-/
import Derived.Test.YtdlplmflimleaaaBaseV
import Derived.Test.YtdlplmflimleaaaBaseW
import Derived.Test.YtdlplmflimleaaaRows
import Derived.WalkKit
import Derived.ProofKit
import Derived.OpenShut
import Derived.ShutString
import Derived.ChangeOld
import Derived.Below
namespace Go.Proofs.Ytdlplmflimleaaa.baseReads
open Go.ChangeShapes Go.WideShapes Go.ChangeAt Go.RowKit
open Go.ChangeMaps (open_string shut_string)
set_option linter.unusedVariables false
set_option linter.unusedSimpArgs false

theorem own : ownKnob Try.prog.godebug = none := by kernel_rfl
theorem laidOut : laidOutB Try.prog = true := by kernel_rfl

theorem rd_len (a : Int) (k : Nat) (h0 : k = 4 ∨ k = 5 ∨ k = 6) (s : List UInt8) : (rd a k s).1.length ≤ s.length := by
  unfold rd
  split
  · simp
  split
  · simp
  split
  · simp
  · simp only [List.length_map, rE, digs_length]
    rcases h0 with rfl | rfl | rfl <;> omega

set_option maxRecDepth 100000 in
set_option maxHeartbeats 4000000 in
theorem walk (a0 : Int) (a1 : ByteArray) (w : World) (w0 : (Lit.int .i64 a0).wf = true) (w1 : a1.size ≤ maxLen) :
    Calls Try.prog 9 #[.int .i64 a0, .string a1] w fun e w' => e = .returned (.bool true) ∧ Below w.heap.size w w' := by
  obtain ⟨s, rfl⟩ : ∃ s : List UInt8, a1 = ⟨s.toArray⟩ := ⟨a1.data.toList, by simp⟩
  have hsz : (⟨s.toArray⟩ : ByteArray).size = s.length := rfl
  rw [hsz] at w1
  have b0 := bounds_i64 w0
  have hmax : s.length ≤ 9223372036854775807 := by unfold maxLen at w1; omega
  clear w0 w1
  by_cases hbig : 134217728 < s.length
  · have hbd : decide (134217728 < s.length) = true := by simpa using hbig
    go_enter Try.func9, Try.ntmps9
    go_wp2_with fail
    refine (beyond_any _ _ hmax).mono ?_
    rintro e w' ⟨rfl, rfl⟩
    go_wp2_with fail
    go_ret
    exact ⟨rfl, Below.refl _ _⟩
  have hbd : decide (134217728 < s.length) = false := by simpa using hbig
  by_cases hr : 0 ≤ a0 ∧ a0 ≤ 255
  case neg =>
    have hne : (a0 != a0 % 256) = true := by rw [bne_iff_ne]; omega
    go_enter Try.func9, Try.ntmps9
    go_wp2_with fail
    refine (beyond_any _ _ hmax).mono ?_
    rintro e w' ⟨rfl, rfl⟩
    go_wp2_with fail
    go_ret
    exact ⟨rfl, Below.refl _ _⟩
  obtain ⟨r1, r2⟩ := hr
  have hm : a0 % 256 = a0 := by omega
  by_cases hz : Bt a0 = 0
  · have K : Hid (Bt a0 = 0) := hz
    clear hz
    go_enter Try.func9, Try.ntmps9
    go_wp2_with fail
    refine (beyond_any _ _ hmax).mono ?_
    rintro e w' ⟨rfl, rfl⟩
    go_wp2_with fail
    refine (read_no a0 _ _ K).mono ?_
    rintro e w' ⟨rfl, rfl⟩
    go_wp2_with fail
    refine (rbits_k _ _ _ K).mono ?_
    rintro e w' ⟨rfl, rfl⟩
    go_wp2_with fail
    refine (errno_yes _ _).mono ?_
    rintro e w' ⟨rfl, rfl⟩
    go_wp2_with fail
    go_ret
    exact ⟨rfl, Below.refl _ _⟩
  obtain ⟨k, hk, h0⟩ : ∃ k : Nat, Bt a0 = k ∧ (k = 4 ∨ k = 5 ∨ k = 6) := by
    rcases Bt_cases a0 with ⟨h1, h⟩ | ⟨h1, h⟩ | ⟨h1, h⟩ | ⟨_, _, _, h, _⟩
    · exact ⟨4, h, .inl rfl⟩
    · exact ⟨5, h, .inr (.inl rfl)⟩
    · exact ⟨6, h, .inr (.inr rfl)⟩
    · exact absurd h hz
  have K : Hid (Bt a0 = (k : Int)) := hk
  have H0 := Lib.hid h0
  have hkz : ((k : Int) == 0) = false := by simp; omega
  have hlb : s.length ≤ 1000000000 := by omega
  have HRW := Lib.hid (rd_lets a0 k hk h0 s)
  clear hk h0 hz
  go_enter Try.func9, Try.ntmps9
  go_wp2_with fail
  refine (beyond_any _ _ hmax).mono ?_
  rintro e w' ⟨rfl, rfl⟩
  go_wp2_with fail
  refine (read_k a0 k s _ K H0.out hlb).mono ?_
  rintro e w1 ⟨v, er, rfl, hb1, g1, g2⟩
  have G1 := Lib.hid g1
  have G2 := Lib.hid g2
  have HB1 := Lib.hid hb1
  have hs1 := hb1.size
  clear g1 g2 hb1
  go_wp2_with fail
  refine (rbits_k _ _ _ K).mono ?_
  rintro e w' ⟨rfl, rfl⟩
  go_wp2_with fail
  refine (rread_k a0 k s _ K H0.out hlb).mono ?_
  rintro e w2 ⟨v2, rfl, hb2, g3, g4⟩
  have hb12 := hb2.mono hs1
  have HB2 := Lib.hid (HB1.out.trans hb12)
  by_cases hno : (rd a0 k s).2.1 = 0
  case neg =>
    obtain ⟨rfl, rfl⟩ := G2.out hno
    obtain rfl := g4 hno
    have hnz : ((((rd a0 k s).2.1 : Nat) : Int) != 0) = true := by rw [bne_iff_ne]; omega
    generalize (rd a0 k s).2.1 = n1 at *
    generalize (rd a0 k s).2.2 = n2 at *
    clear g3 g4 G1 G2 HRW hb2 hb12
    go_wp2_with fail
    refine (spot_yes _ _ _).mono ?_
    rintro e w3 ⟨rfl, hb3⟩
    go_wp2_with fail
    go_ret
    exact ⟨rfl, keepb HB2.out hb3⟩
  obtain ⟨rfl, hown⟩ := G1.out hno
  obtain ⟨A2, c2, rfl, hrb2, hA2⟩ := g3 hno
  have hwr := HRW.out hno
  rw [hno]
  obtain ⟨bs, hbs⟩ : ∃ bs, bs = (rd a0 k s).1 := ⟨_, rfl⟩
  rw [← hbs] at hown hrb2 hwr ⊢
  have HW := Lib.hid hwr
  have HBS := Lib.hid hbs
  have HNO := Lib.hid hno
  have hown2 := hown.below hb2
  have hg1 := hown.lt
  have HG1 := Lib.hid hg1
  have HO2 := Lib.hid hown2
  have HR2 := Lib.hid hrb2
  have HA2 := Lib.hid hA2
  have hs2 := HB2.out.size
  clear g3 g4 G1 G2 HRW hb12 hown2 hown hrb2 hA2 hwr hg1 hbs hno
  have hs12 := hb2.size
  clear hb2
  go_wp2_with fail
  refine (read_k a0 k s _ K H0.out hlb).mono ?_
  rintro e w3 ⟨v3, er3, rfl, hb3, g5, g6⟩
  obtain ⟨rfl, hown3⟩ := g5 HNO.out
  rw [← HBS.out] at hown3
  have hb23 := hb3.mono hs2
  have HB3 := Lib.hid (HB2.out.trans hb23)
  have hs3 := hb3.size
  have hownb := HO2.out.below hb3
  have hrb3 := HR2.out.below hb3
  obtain ⟨A3, c3, rfl, _⟩ := own_shape hown3.own
  obtain ⟨A1, c1, rfl, _⟩ := own_shape hownb.own
  have hg3 := hown3.lt
  have hrbc := RB.of_own hown3.own
  have hbb : (bs == bs) = true := by simp
  have hSA := same_any A1 A2 _ _ c1 c2 _ _ bs bs _ (RB.of_own hownb.own) hrb3
  have hSB := same_any A3 A2 _ _ c3 c2 _ _ bs bs _ hrbc hrb3
  rw [hbb] at hSA hSB
  have HSA := Lib.hid hSA
  have HSB := Lib.hid hSB
  have HRC := Lib.hid hrbc
  have HR3 := Lib.hid hrb3
  have HG3 := Lib.hid hg3
  have HO3 := Lib.hid hownb
  clear g5 g6 hown3 hSA hSB hrbc hrb3 hg3 hownb hb23 hb3 HO2 HR2
  go_wp2_with fail
  refine HSA.out.mono ?_
  rintro e w' ⟨rfl, rfl⟩
  go_wp2_with fail
  refine HSB.out.mono ?_
  rintro e w' ⟨rfl, rfl⟩
  have hss : (s == s) = true := by simp
  have hblen : bs.length ≤ 1000000000 := by
    have := rd_len a0 k H0.out s
    rw [← HBS.out] at this
    omega
  rcases HO3.out.2 with ⟨hv, hn0⟩ | ⟨g, cap, rest, hv, hbg, hblk, hcap, hcm⟩
  · injection hv with hv1 hv2 hv3
    subst hv1 hv3
    obtain rfl : bs = [] := List.eq_nil_of_length_eq_zero hn0
    have HRC0 : Hid (RB w3 w3.heap.size A3 0 []) := HRC
    have HR30 : Hid (RB w3 w2.heap.size A2 0 []) := HR3
    clear HRC HR3 HO3 hn0
    go_wp2_with fail
    go_loop [13] (fun i => i = .int .i64 0) (fun i => 0)
    case atStart => rfl
    case round =>
      subst hrel
      have HB5 := HB3
      have HRC5 := Lib.hid (HRC0.out)
      have HRW5 := Lib.hid (HR30.out.mono (show _ ≤ w3.heap.size from hs3))
      have hs5 := HB5.out.size
      go_wp2_with fail
      refine (Write_ok a0 k A3 0 c3 _ [] _ HRC5.out (Nat.le_refl _) K H0.out (by decide)).mono ?_
      rintro e w6 ⟨rfl, hb6⟩
      have hb56 := hb6.mono hs5
      have HB6 := Lib.hid (HB5.out.trans hb56)
      have hSB := same_any A3 A2 0 0 c3 c2 _ _ [] [] _ (HRC5.out.below hb6) (HRW5.out.below hb6)
      rw [hbb] at hSB
      have HSB6 := Lib.hid hSB
      rw [HW.out]
      clear hSB hb56 hb6
      go_wp2_with fail
      refine HSB6.out.mono ?_
      rintro e w' ⟨rfl, rfl⟩
      go_wp2_with fail
      go_ret
      exact ⟨rfl, HB6.out⟩
  · injection hv with hv1 hv2 hv3
    subst hv1 hv3
    have hgl : g < w1.heap.size := (HG1.out g rfl).2
    have hgb : w.heap.size ≤ g := hbg
    have hcm2 : c1 ≤ 9223372036854775807 := by unfold maxLen at hcm; omega
    have HBL := Lib.hid hblk
    clear hblk hcm hbg
    go_wp2_with fail
    go_loopw [13] (fun i wr => ∃ j : Nat, j ≤ c1 ∧ i = .int .i64 j ∧ (∃ l : List UInt8, l.length = c1 ∧ Blk wr g 5 (l.map bv).toArray) ∧ But w3.heap.size g w3 wr) (fun i _ => c1 - (intOf i).toNat)
    case atStart => exact ⟨0, by omega, rfl, ⟨_, by simp; omega, HBL.out⟩, But.refl _ _ _⟩
    case round =>
      obtain ⟨j, hj, rfl, ⟨l, hl, hblk⟩, hbut⟩ := hrel
      by_cases hlt : j < c1
      · have hcell : wr.cell? ⟨g, j, none⟩ = some (bv (l.getD j 0)) := by
          rw [hblk.cell]; simp [List.getD, hl, hlt]
        have hfz := hblk.frozen j
        have hxb : (l.getD j 0).toNat < 256 := UInt8.toNat_lt _
        generalize l.getD j 0 = x at *
        have HBK := Lib.hid hblk
        clear hblk
        go_wp2_with fail
        go_roundw
        case rel =>
          refine ⟨j + 1, by omega, by go_num, ⟨l.set j (UInt8.ofNat ((x.toNat + 1) % 256)), by simpa using hl, ?_⟩, hbut.setCell (.inl rfl) _⟩
          have hv : bv (UInt8.ofNat ((x.toNat + 1) % 256)) = Value.int .u8 (((x.toNat : Int) + 1) % 256) := by
            show Value.int .u8 _ = _
            have hlt2 : (x.toNat + 1) % 256 < UInt8.size := by show _ < 256; omega
            rw [UInt8.toNat_ofNat_of_lt' hlt2]
            congr 1 <;> omega
          have := HBK.out.set1 j (bv (UInt8.ofNat ((x.toNat + 1) % 256)))
          rw [hv] at this
          rw [List.map_set, hv]
          simpa using this
        case measure => simp [intOf]; omega
      · obtain rfl : j = c1 := by omega
        have hne3 : ∀ g' o, A3 = some ⟨g', o, none⟩ → 0 < bs.length → g' ≠ g := by
          intro g' o hA _
          have := (HG3.out g' (by rw [hA]; rfl)).1
          omega
        have hne2 : ∀ g' o, A2 = some ⟨g', o, none⟩ → 0 < bs.length → g' ≠ g := by
          intro g' o hA _
          have := HA2.out g' o hA
          omega
        have hsw := hbut.size
        have HRC5 := Lib.hid ((HRC.out.but hbut hne3).mono hsw)
        have HRW5 := Lib.hid (((HR3.out.mono (show _ ≤ w3.heap.size from hs3)).but hbut hne2).mono hsw)
        have hB3s := HB3.out.size
        have HB5 := Lib.hid (HB3.out.trans ((hbut.mono hB3s).toBelow hgb))
        clear hblk hl hne3 hne2 hsw hB3s hlt hj
        have hs5 := HB5.out.size
        go_wp2_with fail
        refine (Write_ok a0 k A3 _ c3 _ bs _ HRC5.out (Nat.le_refl _) K H0.out hblen).mono ?_
        rintro e w6 ⟨rfl, hb6⟩
        have hb56 := hb6.mono hs5
        have HB6 := Lib.hid (HB5.out.trans hb56)
        have hSB := same_any A3 A2 _ _ c3 c2 _ _ bs bs _ (HRC5.out.below hb6) (HRW5.out.below hb6)
        rw [hbb] at hSB
        have HSB6 := Lib.hid hSB
        rw [HW.out]
        clear hSB hb56 hb6
        go_wp2_with fail
        refine HSB6.out.mono ?_
        rintro e w' ⟨rfl, rfl⟩
        go_wp2_with fail
        go_ret
        exact ⟨rfl, HB6.out⟩

set_option maxRecDepth 100000 in
theorem lifted (os : Os) (started : os.Started) (H : Type) (enc : TypeId × Value → H) :
    ReturnsInHanded {} Try.checked os 9 .any (Rows.baseReadsSpec.pre6 enc Try.prog Try.f9 Rows.baseReadsRow.domain false) (Rows.baseReadsSpec.post enc Try.prog Try.f9 false true false false) := by
  refine returnsInHanded_of_change (C := Try.checked) own started (by kernel_rfl) Try.func9
    (ChangeSpec.witness6 (enc := enc) (C := Try.checked) false ⟨#[], #[.int .i64 0, .string ByteArray.empty], []⟩ 8 (by kernel_rfl) (by kernel_rfl) (by kernel_rfl) (by kernel_rfl)) ?_
  intro W base args ds gs before hval0 hW hcnd _
  have hval : ∀ (j : Nat) t v, Try.f9.params[j]? = some t → args[j]? = some v → Value.okWide Try.prog W .any base t v := hval0
  have hW' := hW
  obtain ⟨p, q, hA0, hV, rfl, hfz, hnd⟩ := hW
  have hA : DataW.TrodAll enc Try.prog W 0 (fun _ => true) true Try.f9.params.toList args.toList ds p := hA0
  rw [Try.params9] at hA hval
  obtain ⟨v0, vs0, d0, ds0, p0, q0, hargs, rfl, rfl, h0, r0⟩ := trodAll_cons hA
  obtain ⟨v1, vs1, d1, ds1, p1, q1, rfl, rfl, rfl, h1, r1⟩ := trodAll_cons r0
  obtain ⟨rfl, rfl, rfl⟩ := trodAll_nil r1
  obtain rfl : args = #[v0, v1] := by cases args; simp_all
  obtain ⟨rfl, rfl⟩ := trodVars_none hV
  obtain ⟨a0, rfl, rfl, rfl, w0⟩ := open_int Try.underlying3 (hval 0 3 v0 rfl rfl) h0
  obtain ⟨a1, rfl, rfl, rfl, w1⟩ := open_string Try.underlying9 (hval 1 9 v1 rfl rfl) h1
  clear hA0 hval0
  refine (walk a0 a1 W w0 w1).mono fun e W' ⟨he, bel⟩ => ?_
  subst he
  exact ⟨_, rfl, _, _, _, [], _, [], hW', trodAll_mk1 (shut_bool Try.underlying4 _), (trodAll_cons_mk (shut_int Try.underlying3 w0) (trodAll_cons_mk (shut_string Try.underlying9 w1) trodAll_mk0)), rfl, bel.frame _, fun h => by cases h⟩

theorem over : Rows.baseReadsRow.holds Try.pinned (OpenSpec.ofChange Rows.baseReadsSpec) :=
  OpenClaim.holds_of_wide 9 Try.f9 rfl rfl rfl rfl rfl rfl rfl ⟨rfl, rfl, rfl, rfl, rfl⟩ rfl rfl rfl rfl rfl (by kernel_rfl) Try.func9 (by kernel_rfl)
    (of_decide_eq_true (by kernel_rfl)) (by unfold Func.isWrapper; first | (rw [if_pos (by decide +kernel)]; kernel_rfl) | (rw [if_neg (by decide +kernel)]; exact ⟨rfl, rfl⟩))
    (fun os started H enc _ => lifted os started H enc)

theorem proved : Rows.BaseReadsSaid := over
#print axioms proved
end Go.Proofs.Ytdlplmflimleaaa.baseReads
