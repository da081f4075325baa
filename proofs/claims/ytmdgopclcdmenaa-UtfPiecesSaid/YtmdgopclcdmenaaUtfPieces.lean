/-
  Proved: 'UtfPieces' answers true at every row of bytes and every place of a cut: a feeder to which they come at once, in two pieces, or byte by byte, stands as the reference says, and feeders side by side do not touch one another. No condition beyond the given values' own reach.
-/
import Derived.Test.YtmdgopclcdmenaaRows
import Derived.Test.YtmdgopclcdmenaaUtfL
import Derived.WalkKit
import Derived.ProofKit
import Derived.OpenShut
import Derived.ShutString
import Derived.ChangeOld
import Derived.Below
import Derived.SizedLaws
namespace Go.Proofs.Ytmdgopclcdmenaa.utfPieces
open Go.ChangeShapes Go.WideShapes Go.ChangeAt Go.RowKit
open Go.ChangeMaps (open_string shut_string)
set_option linter.unusedVariables false
set_option linter.unusedSimpArgs false

theorem own : ownKnob Try.prog.godebug = none := by kernel_rfl
theorem laidOut : laidOutB Try.prog = true := by kernel_rfl

/-- What is known of a slice of integers that came in. -/
def IsRow (k : IntKind) (w : World) (a : Option Addr) (len cap : Nat) (zs : List Int) : Prop :=
  (a = none ∧ len = 0 ∧ cap = 0 ∧ zs = []) ∨
  ∃ x, a = some x ∧ len ≤ cap ∧ cap ≤ maxLen ∧ zs.length = cap ∧ (∀ i, i < zs.length → w.cell? (x.add i) = some (.int k (zs.getD i 0))) ∧ ∀ n ∈ zs, (Lit.int k n).wf = true

set_option maxRecDepth 100000 in
set_option maxHeartbeats 8000000 in
theorem core (n c : Nat) (A : Option Addr) (cut : Int) (k : Nat) (bs : List UInt8) (w : World) (hR : RB w w.heap.size A n bs) (hn : n ≤ 2147483647) (hnc : n ≤ c) (hc : c ≤ 9223372036854775807) (hk : k ≤ n)
    (hcase : (cut < 0 ∧ (n : Int) / 2 = k) ∨ (0 ≤ cut ∧ (n : Int) < cut ∧ (n : Int) / 2 = k) ∨ (0 ≤ cut ∧ cut ≤ n ∧ cut = k)) :
    Calls Try.prog 10 #[.slice A n c, .int .i64 cut] w fun e w' => e = .returned (.bool true) ∧ Below w.heap.size w w' := by
  have hbl := hR.1
  subst hbl
  have HR := Lib.hid hR
  clear hR
  have HB := Lib.hid (fun W => beyond_any bs.length W (by omega))
  rw [show decide (2147483647 < bs.length) = false by simp; omega] at HB
  rcases hcase with ⟨t1, t2⟩ | ⟨t1, t2, t3⟩ | ⟨t1, t2, rfl⟩
  all_goals
    go_enter Try.func10, Try.ntmps10
    go_wp2_with fail
    refine (HB.out _).mono ?_
    rintro e w' ⟨rfl, rfl⟩
    go_wp2_with fail
    refine (new_any _).mono ?_
    rintro e w1 ⟨rfl, f1, b1⟩
    have F1 := Lib.hid f1
    have B1 := Lib.hid b1
    have l1 := f1.lt
    clear f1 b1
    go_wp2_with fail
    refine (new_any _).mono ?_
    rintro e w2 ⟨rfl, f2, b2⟩
    have F2 := Lib.hid f2
    have F1b := Lib.hid (F1.out.below b2 l1)
    have B2 := Lib.hid (B1.out.trans (b2.mono B1.out.size))
    have l2 := f2.lt
    clear f2 b2 F1 B1
    go_wp2_with fail
    refine (new_any _).mono ?_
    rintro e w3 ⟨rfl, f3, b3⟩
    have F3 := Lib.hid f3
    have F2b := Lib.hid (F2.out.below b3 l2)
    have F1c := Lib.hid (F1b.out.below b3 (by omega))
    have B3 := Lib.hid (B2.out.trans (b3.mono B2.out.size))
    have l3 := f3.lt
    clear f3 b3 F1b F2 B2
    go_wp2_with fail
    refine (feed_any w.heap.size fini A bs.length c w.heap.size bs w3 F1c.out fini_ok (HR.out.below B3.out) (fun g o hA hp => by have := HR.out.lt g o hA hp; omega) B3.out.size (by omega) (Nat.zero_le _)).mono ?_
    rintro e w4 ⟨rfl, f4, b4⟩
    have G1 := Lib.hid f4
    have G2 := Lib.hid (F2b.out.but b4 (by omega) (by omega))
    have G3 := Lib.hid (F3.out.but b4 (by omega) (by omega))
    have B4 := Lib.hid (B3.out.trans ((b4.mono B3.out.size).toBelow (Nat.le_refl _)))
    have l4 := b4.size
    clear f4 b4 F1c F2b F3 B3
    generalize faultV (frun fini bs) = v1
    obtain ⟨A2, hA2⟩ : ∃ A2, (if c = k then A else Option.map (fun x => x.add k) A) = A2 := ⟨_, rfl⟩
    have hA0 : (if c = 0 then A else Option.map (fun x => x.add 0) A) = A := by
      split
      · rfl
      · cases A <;> simp [Addr.add]
    have r1 := HR.out.cutA hnc (show 0 + k ≤ bs.length by omega)
    have r2 := HR.out.cutA hnc (show k + (bs.length - k) ≤ bs.length by omega)
    rw [hA0, List.drop_zero] at r1
    rw [hA2, List.take_of_length_le (by simp)] at r2
    have R1 := Lib.hid r1
    have R2 := Lib.hid r2
    clear r1 r2
    go_wp2_with fail
    refine (feed_any w1.heap.size fini A k c w.heap.size (bs.take k) w4 G2.out fini_ok (R1.out.below B4.out) (fun g o hA hp => by have := R1.out.lt g o hA hp; omega) B4.out.size (by omega) (Nat.zero_le _)).mono ?_
    rintro e w5 ⟨rfl, f5, b5⟩
    have H1 := Lib.hid (G1.out.but b5 (by omega) (by omega))
    have H2 := Lib.hid f5
    have H3 := Lib.hid (G3.out.but b5 (by omega) (by omega))
    have hs4 := B4.out.size
    have B5 := Lib.hid (B4.out.trans ((b5.mono hs4).toBelow (by omega)))
    have l5 := b5.size
    clear f5 b5 G1 G2 G3
    generalize faultV (frun fini (bs.take k)) = v2
    go_wp2_with fail
    refine (feed_any w1.heap.size _ none 0 0 w.heap.size [] w5 H2.out (frun_ok fini_ok _) (RB.nil _ _ _) (fun g o hA hp => by omega) B5.out.size (by omega) (Nat.le_trans (frun_place_le _) (by simp; omega))).mono ?_
    rintro e w6 ⟨rfl, f6, b6⟩
    rw [frun_nil] at f6 ⊢
    have J1 := Lib.hid (H1.out.but b6 (by omega) (by omega))
    have J2 := Lib.hid f6
    have J3 := Lib.hid (H3.out.but b6 (by omega) (by omega))
    have hs5 := B5.out.size
    have B6 := Lib.hid (B5.out.trans ((b6.mono hs5).toBelow (by omega)))
    have l6 := b6.size
    clear f6 b6 H1 H2 H3
    generalize faultV (frun fini (bs.take k)) = v3
    go_wp2_with fail
    refine (feed_any w1.heap.size _ A2 (bs.length - k) _ w.heap.size (bs.drop k) w6 J2.out (frun_ok fini_ok _) (R2.out.below B6.out) (fun g o hA hp => by have := R2.out.lt g o hA hp; omega) B6.out.size (by omega) (Nat.le_trans (frun_place_le _) (by simp; omega))).mono ?_
    rw [← frun_append, List.take_append_drop]
    rintro e w7 ⟨rfl, f7, b7⟩
    have K1 := Lib.hid (J1.out.but b7 (by omega) (by omega))
    have K2 := Lib.hid f7
    have K3 := Lib.hid (J3.out.but b7 (by omega) (by omega))
    have hs6 := B6.out.size
    have B7 := Lib.hid (B6.out.trans ((b7.mono hs6).toBelow (by omega)))
    have l7 := b7.size
    clear f7 b7 J1 J2 J3
    generalize faultV (frun fini bs) = v4
    go_wp2_with fail
    go_loopw [8] (fun i wr => ∃ j : Nat, j ≤ bs.length ∧ i = .int .i64 j ∧ FB wr w2.heap.size (frun fini (bs.take j)) ∧ But w7.heap.size w2.heap.size w7 wr) (fun i _ => bs.length - (intOf i).toNat)
    case atStart => exact ⟨0, by omega, rfl, K3.out, But.refl _ _ _⟩
    case round =>
      obtain ⟨j, hj, rfl, hf, hbut⟩ := hrel
      have HF := Lib.hid hf
      have HBT := Lib.hid hbut
      have lr := hbut.size
      have hs7 := B7.out.size
      have BR := Lib.hid (B7.out.trans ((hbut.mono hs7).toBelow (by omega)))
      have hsr := BR.out.size
      clear hf hbut
      by_cases hlt : j < bs.length
      · have r3 := HR.out.cutA hnc (show j + 1 ≤ bs.length by omega)
        obtain ⟨A3, hA3⟩ : ∃ A3, (if c = j then A else Option.map (fun x => x.add j) A) = A3 := ⟨_, rfl⟩
        rw [hA3] at r3
        have htk : bs.take (j + 1) = bs.take j ++ (bs.drop j).take 1 := by rw [List.take_add]
        have R3 := Lib.hid r3
        have HTK := Lib.hid htk
        have e1 : j + 1 - j = 1 := by omega
        have hjc : (j : Int) + 1 ≤ c := by omega
        clear r3 htk
        go_wp2_with fail
        refine (feed_any w2.heap.size _ A3 1 _ w.heap.size ((bs.drop j).take 1) wr HF.out (frun_ok fini_ok _) (R3.out.below BR.out) (fun g o hA hp => by have := R3.out.lt g o hA hp; omega) hsr (by omega) (Nat.le_trans (frun_place_le _) (by simp; omega))).mono ?_
        rw [← frun_append, ← HTK.out]
        rintro e w8 ⟨rfl, f8, b8⟩
        have F8 := Lib.hid f8
        have B8 := Lib.hid b8
        clear f8 b8
        generalize faultV (frun fini (bs.take (j + 1))) = v5
        go_wp2_with fail
        go_roundw
        case rel => exact ⟨j + 1, by omega, by go_num, F8.out, HBT.out.trans (B8.out.mono lr)⟩
        case measure => simp [intOf]; omega
      · obtain rfl : j = bs.length := by omega
        have M1 := Lib.hid (K1.out.but HBT.out (by omega) (by omega))
        have M2 := Lib.hid (K2.out.but HBT.out (by omega) (by omega))
        have M3 : Hid (FB wr w2.heap.size (frun fini bs)) := by have := HF.out; rw [List.take_length] at this; exact this
        clear hlt HF
        go_wp2_with fail
        refine (stands_yes w.heap.size A bs.length c w.heap.size bs wr M1.out (HR.out.below BR.out) hsr (by omega)).mono ?_
        rintro e w8 ⟨rfl, b8⟩
        have C8 := Lib.hid (keepb BR.out b8)
        have N2 := Lib.hid (M2.out.below b8 (by omega))
        have N3 := Lib.hid (M3.out.below b8 (by omega))
        have l8 := b8.size
        clear b8
        go_wp2_with fail
        refine (stands_yes w1.heap.size A bs.length c w.heap.size bs w8 N2.out (HR.out.below C8.out) (by omega) (by omega)).mono ?_
        rintro e w9 ⟨rfl, b9⟩
        have C9 := Lib.hid (keepb C8.out b9)
        have P3 := Lib.hid (N3.out.below b9 (by omega))
        have l9 := b9.size
        clear b9
        go_wp2_with fail
        refine (stands_yes w2.heap.size A bs.length c w.heap.size bs w9 P3.out (HR.out.below C9.out) (by omega) (by omega)).mono ?_
        rintro e w10 ⟨rfl, b10⟩
        have C10 := Lib.hid (keepb C9.out b10)
        clear b10
        go_wp2_with fail
        go_ret
        exact ⟨rfl, C10.out⟩


theorem walk (a0 : Option Addr) (len0 cap0 : Nat) (z0 : List Int) (a1 : Int) (w : World) (w0 : IsRow .u8 w a0 len0 cap0 z0) (s0 : cap0 ≤ 140737488351232) (w1 : (Lit.int .i64 a1).wf = true) :
    Calls Try.prog 10 #[.slice a0 len0 cap0, .int .i64 a1] w fun e w' => e = .returned (.bool true) ∧ Below w.heap.size w w' := by
  obtain ⟨hRB, hlc, hcm⟩ := RB.of_row w0
  clear w0 w1
  by_cases hbig : 2147483647 < len0
  · have HB := Lib.hid (fun W => beyond_any len0 W (by omega))
    rw [show decide (2147483647 < len0) = true by simpa using hbig] at HB
    clear hRB hbig hcm
    go_enter Try.func10, Try.ntmps10
    go_wp2_with fail
    refine (HB.out _).mono ?_
    rintro e w' ⟨rfl, rfl⟩
    go_wp2_with fail
    go_ret
    exact ⟨rfl, Below.refl _ _⟩
  by_cases h1 : a1 < 0
  · exact core len0 cap0 a0 a1 (len0 / 2) _ w hRB (by omega) hlc (by omega) (by omega) (.inl ⟨h1, by omega⟩)
  by_cases h2 : (len0 : Int) < a1
  · exact core len0 cap0 a0 a1 (len0 / 2) _ w hRB (by omega) hlc (by omega) (by omega) (.inr (.inl ⟨by omega, h2, by omega⟩))
  · exact core len0 cap0 a0 a1 a1.toNat _ w hRB (by omega) hlc (by omega) (by omega) (.inr (.inr ⟨by omega, by omega, by omega⟩))

set_option maxRecDepth 100000 in
theorem lifted (os : Os) (started : os.Started) (H : Type) (enc : TypeId × Value → H) :
    ReturnsInHanded {} Try.checked os 10 .any (Rows.utfPiecesSpec.pre6 enc Try.prog Try.f10 Rows.utfPiecesRow.domain false) (Rows.utfPiecesSpec.post enc Try.prog Try.f10 false true false false) := by
  refine returnsInHanded_of_change_sized (C := Try.checked) own started (by kernel_rfl) Try.func10
    (ChangeSpec.witness6 (enc := enc) (C := Try.checked) false ⟨#[], #[.slice none 0 0, .int .i64 0], []⟩ 8 (by kernel_rfl) (by kernel_rfl) (by kernel_rfl) (by kernel_rfl)) ?_
  intro W base args ds gs before hval0 hW hcnd hsz0 _
  have hsz : (DataW.weightsEach Try.prog (Try.f10.params.toList ++ Rows.utfPiecesSpec.plain.varTypes Try.prog) (ds ++ gs)).all (· ≤ reachBytes) = true := hsz0
  clear hsz0
  have hval : ∀ (j : Nat) t v, Try.f10.params[j]? = some t → args[j]? = some v → Value.okWide Try.prog W .any base t v := hval0
  have hW' := hW
  obtain ⟨p, q, hA0, hV, rfl, hfz, hnd⟩ := hW
  have hA : DataW.TrodAll enc Try.prog W 0 (fun _ => true) true Try.f10.params.toList args.toList ds p := hA0
  rw [Try.params10] at hA hval hsz
  obtain ⟨v0, vs0, d0, ds0, p0, q0, hargs, rfl, rfl, h0, r0⟩ := trodAll_cons hA
  obtain ⟨v1, vs1, d1, ds1, p1, q1, rfl, rfl, rfl, h1, r1⟩ := trodAll_cons r0
  obtain ⟨rfl, rfl, rfl⟩ := trodAll_nil r1
  obtain rfl : args = #[v0, v1] := by cases args; simp_all
  obtain ⟨rfl, rfl⟩ := trodVars_none hV
  obtain ⟨a0, len0, cap0, rfl⟩ := okWide_slice Try.underlying22 (hval 0 22 v0 rfl rfl)
  have k0 := h0
  have lt0 : ∀ x ∈ p0, x.block < W.heap.size := by obtain ⟨m, hm⟩ := k0; exact DataW.trod_lt m _ _ _ hm
  obtain ⟨z0, w0, s0⟩ : ∃ zs, IsRow .u8 W a0 len0 cap0 zs ∧ cap0 ≤ 140737488351232 := by
    obtain ⟨fuel, hf⟩ := h0
    rcases open_ints Try.underlying22 Try.underlying5 (by kernel_rfl) hf with ⟨hcs, _⟩ | ⟨x, l, c, zs, hcs, _, hl, hm, hz, hdx, hcell, hwz⟩
    · simp [Value.cells] at hcs
      obtain ⟨rfl, rfl, rfl⟩ := hcs
      exact ⟨[], .inl ⟨rfl, rfl, rfl, rfl⟩, by omega⟩
    · simp [Value.cells] at hcs
      obtain ⟨rfl, rfl, rfl⟩ := hcs
      have hz' : zs.length = cap0 := by simpa using hz
      injection hdx with hdx1 hdx2
      have hs := sized_slice hsz (j := 0) (t := 22) (e := 5) (elems := lits .u8 (zs.take len0)) (spare := lits .u8 (zs.drop len0)) rfl (by rw [← hdx1]; rfl) Try.underlying22
      rw [(by kernel_rfl : Try.prog.bytesOf 5 = 1)] at hs
      simp only [lits, List.length_map, List.length_take, List.length_drop, reachBytes, hz'] at hs
      have hs : cap0 ≤ 140737488351232 := by omega
      exact ⟨zs, .inr ⟨_, rfl, hl, hm, hz', hcell, hwz⟩, by simpa [lits, hz', reachBytes] using hs⟩
  obtain ⟨a1, rfl, rfl, rfl, w1⟩ := open_int Try.underlying3 (hval 1 3 v1 rfl rfl) h1
  clear hA0 hval0
  refine (walk a0 len0 cap0 z0 a1 W w0 s0 w1).mono fun e W' ⟨he, bel⟩ => ?_
  subst he
  exact ⟨_, rfl, _, _, _, [], _, [], hW', trodAll_mk1 (shut_bool Try.underlying4 _), (trodAll_cons_mk (Below.trod laidOut (by kernel_rfl) (of_decide_eq_true (by kernel_rfl)) k0 bel lt0) (trodAll_cons_mk (shut_int Try.underlying3 w1) trodAll_mk0)), rfl, bel.frame _, fun h => by cases h⟩

theorem over : Rows.utfPiecesRow.holds Try.pinned (OpenSpec.ofChange Rows.utfPiecesSpec) :=
  OpenClaim.holds_of_wide 10 Try.f10 rfl rfl rfl rfl rfl rfl rfl ⟨rfl, rfl, rfl, rfl, rfl⟩ rfl rfl rfl rfl rfl (by kernel_rfl) Try.func10 (by kernel_rfl)
    (of_decide_eq_true (by kernel_rfl)) (by unfold Func.isWrapper; first | (rw [if_pos (by decide +kernel)]; kernel_rfl) | (rw [if_neg (by decide +kernel)]; exact ⟨rfl, rfl⟩))
    (fun os started H enc _ => lifted os started H enc)

theorem proved : Rows.UtfPiecesSaid := over
#print axioms proved
end Go.Proofs.Ytmdgopclcdmenaa.utfPieces
