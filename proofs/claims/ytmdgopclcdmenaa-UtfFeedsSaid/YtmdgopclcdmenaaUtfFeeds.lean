/-
  Proved: 'UtfFeeds' answers true at every row of rows of bytes: behind each piece that comes a feeder tells what the reference says of all that came. No condition beyond the given value's own reach.
-/
import Derived.Test.YtmdgopclcdmenaaRows
import Derived.Test.YtmdgopclcdmenaaUtfM
import Derived.WalkKit
import Derived.ProofKit
import Derived.OpenShut
import Derived.ShutString
import Derived.ChangeOld
import Derived.Below
import Derived.SizedLaws
namespace Go.Proofs.Ytmdgopclcdmenaa.utfFeeds
open Go.ChangeShapes Go.WideShapes Go.ChangeAt Go.RowKit
open Go.ChangeMaps (open_string shut_string)
set_option linter.unusedVariables false
set_option linter.unusedSimpArgs false

theorem own : ownKnob Try.prog.godebug = none := by kernel_rfl
theorem laidOut : laidOutB Try.prog = true := by kernel_rfl

theorem errIs_fault (s : List UInt8) : ErrIs (if (wrong s).1 = 31 then 0 else (wrong s).1) (wrong s).2 (faultV (frun fini s)) := by
  unfold ErrIs faultV
  rcases wrong_cases s with ⟨h1, h2, h3, h4⟩ | ⟨h1, h2, h3, h4 | h4⟩
  · rw [h1, h2]; rfl
  · rw [h1, h4]; rfl
  · rw [h1, h4]; rfl

set_option maxRecDepth 100000 in
set_option maxHeartbeats 8000000 in
theorem walk (a0 : Option Addr) (len0 cap0 : Nat) (A0 : Nat → Option Addr) (L0 C0 : Nat → Nat) (b0 : Nat → List UInt8) (w : World) (w0 : PB w w.heap.size a0 len0 A0 L0 C0 b0) (s0 : len0 ≤ 5864062014634) :
    Calls Try.prog 9 #[.slice a0 len0 cap0] w fun e w' => e = .returned (.bool true) ∧ Below w.heap.size w w' := by
  have HP := Lib.hid w0
  clear w0
  go_enter Try.func9, Try.ntmps9
  go_wp2_with fail
  refine (total_any a0 len0 cap0 A0 L0 C0 b0 w HP.out s0).mono ?_
  rintro e w' ⟨N, rfl, hN1, hN2, rfl⟩
  have HN2 := Lib.hid hN2
  clear hN2
  have HB := Lib.hid (fun w => beyond_any N w (by omega))
  go_wp2_with fail
  by_cases hbig : 2147483647 < N
  · rw [show decide (2147483647 < N) = true by simpa using hbig] at HB
    clear hbig
    refine (HB.out _).mono ?_
    rintro e w' ⟨rfl, rfl⟩
    go_wp2_with fail
    go_ret
    exact ⟨rfl, Below.refl _ _⟩
  rw [show decide (2147483647 < N) = false by simpa using hbig] at HB
  have htot := HN2.out (by omega)
  have htl : ∀ i, i ≤ len0 → (cat b0 i).length ≤ 2147483647 := by
    intro i hi
    have := cat_mono b0 i len0 hi
    unfold tot at htot
    omega
  have HTL := Lib.hid htl
  clear htl hbig htot HN2
  refine (HB.out _).mono ?_
  rintro e w' ⟨rfl, rfl⟩
  by_cases h3 : 3000 < len0
  · have h3' : decide ((3000 : Int) < len0) = true := by simp; omega
    clear h3
    go_wp2_with fail
    go_ret
    exact ⟨rfl, Below.refl _ _⟩
  have h3' : decide ((3000 : Int) < len0) = false := by simp; omega
  clear h3
  go_wp2_with fail
  refine (new_any _).mono ?_
  rintro e w1 ⟨rfl, f1, b1⟩
  have F1 := Lib.hid f1
  have B1 := Lib.hid b1
  have l1 := f1.lt
  clear f1 b1
  go_wp2_with fail
  refine (stands_yes w.heap.size none 0 0 w.heap.size [] w1 F1.out (RB.nil _ _ _) B1.out.size (by omega)).mono ?_
  rintro e w2 ⟨rfl, b2⟩
  have F2 := Lib.hid (F1.out.below b2 l1)
  have B2 := Lib.hid (keepb B1.out b2)
  clear b2
  go_wp2_with fail
  go_loopw [4, 5] (fun v i wi => ∃ p : Nat, p ≤ len0 ∧ i = .int .i64 p ∧ OwnR wi (w.heap.size + 1) 5 (fun _ => True) v (cat b0 p).length ((cat b0 p).map bv) ∧ FB wi w.heap.size (frun fini (cat b0 p)) ∧ Below w.heap.size w wi) (fun _ i _ => len0 - (intOf i).toNat)
  case atStart => exact ⟨0, by omega, rfl, OwnR.nil _ _ _ _, F2.out, B2.out⟩
  case round =>
    obtain ⟨wi, rfl⟩ : ∃ wi : World, wi = wr := ⟨_, rfl⟩
    obtain ⟨p, hp, rfl, hown, hfb, hbel⟩ := hrel
    have hcl := HTL.out p hp
    by_cases hlt : p < len0
    · obtain ⟨g, o, rfl, hg, hc⟩ := HP.out.2 (by omega)
      obtain ⟨hrb, hlc, hcm⟩ := HP.out.1 p hlt
      have hcell := keepc hbel hg (hc p hlt)
      have hcl1 := HTL.out (p + 1) (by omega)
      have hcs := cat_succ b0 p
      have hbl := hrb.1
      have hll : (cat b0 p).length + L0 p ≤ 2147483647 := by rw [hcs] at hcl1; simp at hcl1; omega
      have hrbi := hrb.below hbel
      have hsi := hbel.size
      have hgb : w.heap.size < wi.heap.size := hfb.lt
      have hfr := frun_append fini (cat b0 p) (b0 p)
      rw [← hcs] at hfr
      have HRB := Lib.hid hrbi
      have HCS := Lib.hid hcs
      have HBL := Lib.hid hbl
      have HFB := Lib.hid hfb
      have HBE := Lib.hid hbel
      have HOWN := Lib.hid hown
      have HFR := Lib.hid hfr
      have HEF := Lib.hid (errIs_fault (cat b0 (p + 1)))
      clear hc hrb hcs hbl hfb hbel hown hrbi hcl hcl1 hfr
      generalize L0 p = l at *
      generalize A0 p = A at *
      generalize C0 p = C at *
      generalize b0 p = bs at *
      go_wp2_with fail
      refine (roomy_any A l C w.heap.size bs wi HRB.out hsi (by omega)).mono ?_
      rintro e w2 ⟨rfl, hroom, hb2⟩
      have hs2 := hb2.size
      have hrl : wi.heap.size < w2.heap.size := Blk.lt hroom
      have HROOM := Lib.hid hroom
      have HB2 := Lib.hid hb2
      have hcell2 := keepc hb2 (show g < wi.heap.size by omega) hcell
      clear hroom hb2 hcell
      go_wp2_with fail
      refine (feed_any w.heap.size (frun fini (cat b0 p)) (some ⟨wi.heap.size, 0, none⟩) l (l + 3) (wi.heap.size + 1) bs w2 (HFB.out.below HB2.out hgb) (frun_ok fini_ok _) (HROOM.out.holds HBL.out).1 (by intro g' o' h _; injection h with h; injection h with h; omega) hrl (by omega) (Nat.le_trans (frun_place_le _) (by omega))).mono ?_
      rw [← HFR.out]
      rintro e w3 ⟨rfl, hf3, hbut3⟩
      have hs3 := hbut3.size
      have hroom3 : RoomB w3 wi.heap.size bs := (hbut3.block _ hrl (by omega)).trans HROOM.out
      have hrb3 := (HRB.out.below (HB2.out.mono hsi)).but (hbut3.mono (show w.heap.size ≤ w2.heap.size by omega)) (fun g' o' h1 h2 => by have := HRB.out.lt g' o' h1 h2; omega)
      have hcell3 : w3.cell? ⟨g, o + p, none⟩ = some (.slice A l C) := by
        rw [hbut3.cell (p := ⟨g, o + p, none⟩) (show g < w2.heap.size by omega) (show g ≠ w.heap.size by omega)]; exact hcell2
      have HF3 := Lib.hid hf3
      have HBUT3 := Lib.hid hbut3
      have HROOM3 := Lib.hid hroom3
      have HRB3 := Lib.hid hrb3
      clear hf3 hbut3 hroom3 hrb3 hcell2
      generalize hfv : faultV (frun fini (cat b0 (p + 1))) = fv at *
      clear hfv
      go_wp2_with fail
      refine (left_yes wi.heap.size l C w.heap.size A bs w3 HROOM3.out HRB3.out (by omega) (by omega)).mono ?_
      rintro e w4 ⟨rfl, hb4⟩
      have hs4 := hb4.size
      have HB4 := Lib.hid hb4
      have hcell4 := keepc hb4 (show g < w3.heap.size by omega) hcell3
      clear hb4 hcell3
      go_wp2_with fail
      go_loopw [8] (fun x wx => ∃ y : Nat, y ≤ l ∧ x = .int .i64 y ∧ (∃ t : List UInt8, t.length = l + 3 ∧ Blk wx wi.heap.size 5 (t.map bv).toArray) ∧ But w4.heap.size wi.heap.size w4 wx) (fun x _ => l - (intOf x).toNat)
      case atStart => exact ⟨0, by omega, rfl, ⟨bs ++ [7, 8, 9], by simp [HBL.out], Blk.below HROOM3.out HB4.out (by omega)⟩, But.refl _ _ _⟩
      case round =>
        obtain ⟨wx, rfl⟩ : ∃ wx : World, wx = wr := ⟨_, rfl⟩
        obtain ⟨y, hy, rfl, ⟨t, ht, hbt⟩, hbx⟩ := hrel
        by_cases hyl : y < l
        · have hcy : wx.cell? ⟨wi.heap.size, y, none⟩ = some (bv (t.getD y 0)) := by
            rw [hbt.cell]; simp [List.getD, show y < t.length by omega]
          have hfy := hbt.frozen y
          have HBT := Lib.hid hbt
          have HT := Lib.hid ht
          clear hbt ht
          go_wp2_with fail
          go_roundw
          case rel => exact ⟨y + 1, by omega, by go_num, ⟨t.set y 120, by simpa using HT.out, HBT.out.setb y 120⟩, hbx.setCell (.inl rfl) _⟩
          case measure => simp [intOf]; omega
        · obtain rfl : y = l := by omega
          have hsx := hbx.size
          have hrbx := (HRB3.out.below (HB4.out.mono (show w.heap.size ≤ w3.heap.size by omega))).but (hbx.mono (show w.heap.size ≤ w4.heap.size by omega)) (fun g' o' h1 h2 => by have := HRB3.out.lt g' o' h1 h2; omega)
          have hcellx : wx.cell? ⟨g, o + p, none⟩ = some (.slice A y C) := by
            rw [hbx.cell (p := ⟨g, o + p, none⟩) (show g < w4.heap.size by omega) (show g ≠ wi.heap.size by omega)]; exact hcell4
          have hne : ∀ k, (∃ hs : List UInt8, Blk wi k 87 (fcells 0 hs 0 false)) → True := fun _ _ => trivial
          have hap : ∀ v : Value, OwnR wi (w.heap.size + 1) 5 (fun _ => True) v (cat b0 p).length ((cat b0 p).map bv) → v.ownBlock ≠ some w.heap.size := by
            intro v h h2
            have := (h.lt _ h2).1
            omega
          have hown2 := HOWN.out.below HB2.out
          have hown3 := hown2.but HBUT3.out (hap _ HOWN.out)
          have hown4 := hown3.below HB4.out
          have hownx := hown4.but hbx (by intro h; have := (HOWN.out.lt _ h).2; omega)
          have hfx : FB wx w.heap.size (frun fini (cat b0 (p + 1))) := (HF3.out.below HB4.out (by omega)).but hbx (by omega) (by omega)
          have hbelx : Below w.heap.size w wx := (((HBE.out.trans (HB2.out.mono hsi)).trans ((HBUT3.out.mono (show w.heap.size ≤ w2.heap.size by omega)).toBelow (Nat.le_refl _))).trans (HB4.out.mono (by omega))).trans ((hbx.mono (show w.heap.size ≤ w4.heap.size by omega)).toBelow (by omega))
          have HOW := Lib.hid hownx
          have HFX := Lib.hid hfx
          have HBEX := Lib.hid hbelx
          have HRBX := Lib.hid hrbx
          clear hbx hrbx hown2 hown3 hown4 hownx hfx hbelx hbt ht hcell4 hne hap
          have hsw : w.heap.size + 1 ≤ wx.heap.size := by omega
          have hn5 : (cat b0 p).length + y = (cat b0 (p + 1)).length := by rw [HCS.out]; simp; exact HBL.out.symm
          have hle5 : (cat b0 (p + 1)).length ≤ 2147483647 := HTL.out (p + 1) (by omega)
          have HCS2 : Hid ((cat b0 p).map bv ++ bs.map bv = (cat b0 (p + 1)).map bv) := by rw [HCS.out, List.map_append]; exact rfl
          have HN5 := Lib.hid hn5
          clear hn5 HCS
          generalize hcs5 : cat b0 (p + 1) = cs at *
          have HCS5 := Lib.hid hcs5
          clear hcs5
          have HWR := Lib.hid (fun W => rwrong_any cs W (by omega))
          go_wp2_with (at_builtin; refine wpList_app ei_u8 trivial rfl (.tmp 57) (.tmp 61) rfl (w.heap.size + 1) _ _ _ rfl HOW.out w.heap.size A y C (bs.map bv) rfl HRBX.out.rv (bv_one bs) (by omega) (by omega) hsw ?_; intro A5 cap5 w5 hown5 hg5 hat5; rw [HN5.out] at hown5 ⊢; rw [HCS2.out] at hown5; have hks := str_of_RB hown5.rv.rb cap5; have HOW5 := Lib.hid hown5; have HG5 := Lib.hid hg5; clear hown5 hg5)
          refine (HWR.out _).mono ?_
          rintro e w' ⟨rfl, rfl⟩
          have hb5 : Below w.heap.size w w5 := HBEX.out.grown HG5.out (by omega) (fun k' hk' => by have := (HOW.out.lt k' hk').1; omega)
          have hf5 : FB w5 w.heap.size (frun fini cs) := by
            obtain ⟨hs, q1, q2, q3, q4⟩ := HFX.out
            exact ⟨hs, q1, q2, q3, q4.grown HG5.out (by intro h; have := (HOW.out.lt _ h.symm).1; omega)⟩
          have HB5 := Lib.hid hb5
          have HF5 := Lib.hid hf5
          have hsw5 := hb5.size
          clear hb5 hf5 hks HWR hcellx
          by_cases h31 : (wrong cs).1 = 31
          · have t31 : (((wrong cs).1 : Int) == 31) = true := by simp [h31]
            have HTL2 := Lib.hid (fun W => tells_any 0 (wrong cs).2 fv W (by have := HEF.out; rw [if_pos h31] at this; exact this))
            clear h31
            generalize (wrong cs).1 = x1 at *
            generalize (wrong cs).2 = x2 at *
            go_wp2_with fail
            refine (HTL2.out _).mono ?_
            rintro e w6 ⟨rfl, hb6⟩
            have HB6 := Lib.hid (keepb HB5.out hb6)
            have HOW6 := Lib.hid (HOW5.out.below hb6)
            have HF6 := Lib.hid (HF5.out.below hb6 HF5.out.lt)
            have hs6 := hb6.size
            clear hb6
            go_wp2_with fail
            refine (stands_yes w.heap.size A5 cs.length cap5 w6.heap.size cs w6 HF6.out HOW6.out.rv.rb (Nat.le_refl _) (by omega)).mono ?_
            rintro e w7 ⟨rfl, hb7⟩
            have HB7 := Lib.hid hb7
            clear hb7
            go_wp2_with fail
            go_roundw
            case rel =>
              refine ⟨p + 1, by omega, by go_num, ?_, ?_, keepb HB6.out HB7.out⟩
              · rw [HCS5.out]; exact HOW6.out.below HB7.out
              · rw [HCS5.out]; exact HF6.out.below HB7.out HF6.out.lt
            case measure => simp [intOf]; omega
          · have t31 : (((wrong cs).1 : Int) == 31) = false := by simp; omega
            have HTL2 := Lib.hid (fun W => tells_any (wrong cs).1 (wrong cs).2 fv W (by have := HEF.out; rw [if_neg h31] at this; exact this))
            clear h31
            generalize (wrong cs).1 = x1 at *
            generalize (wrong cs).2 = x2 at *
            go_wp2_with fail
            refine (HTL2.out _).mono ?_
            rintro e w6 ⟨rfl, hb6⟩
            have HB6 := Lib.hid (keepb HB5.out hb6)
            have HOW6 := Lib.hid (HOW5.out.below hb6)
            have HF6 := Lib.hid (HF5.out.below hb6 HF5.out.lt)
            have hs6 := hb6.size
            clear hb6
            go_wp2_with fail
            refine (stands_yes w.heap.size A5 cs.length cap5 w6.heap.size cs w6 HF6.out HOW6.out.rv.rb (Nat.le_refl _) (by omega)).mono ?_
            rintro e w7 ⟨rfl, hb7⟩
            have HB7 := Lib.hid hb7
            clear hb7
            go_wp2_with fail
            go_roundw
            case rel =>
              refine ⟨p + 1, by omega, by go_num, ?_, ?_, keepb HB6.out HB7.out⟩
              · rw [HCS5.out]; exact HOW6.out.below HB7.out
              · rw [HCS5.out]; exact HF6.out.below HB7.out HF6.out.lt
            case measure => simp [intOf]; omega
    · obtain rfl : p = len0 := by omega
      have HBE := Lib.hid hbel
      clear hbel hown hfb hlt
      go_wp2_with fail
      go_ret
      exact ⟨rfl, HBE.out⟩

set_option maxRecDepth 100000 in
theorem lifted (os : Os) (started : os.Started) (H : Type) (enc : TypeId × Value → H) :
    ReturnsInHanded {} Try.checked os 9 .any (Rows.utfFeedsSpec.pre6 enc Try.prog Try.f9 Rows.utfFeedsRow.domain false) (Rows.utfFeedsSpec.post enc Try.prog Try.f9 false true false false) := by
  refine returnsInHanded_of_change_sized (C := Try.checked) own started (by kernel_rfl) Try.func9
    (ChangeSpec.witness6 (enc := enc) (C := Try.checked) false ⟨#[], #[.slice none 0 0], []⟩ 8 (by kernel_rfl) (by kernel_rfl) (by kernel_rfl) (by kernel_rfl)) ?_
  intro W base args ds gs before hval0 hW hcnd hsz0 _
  have hsz : (DataW.weightsEach Try.prog (Try.f9.params.toList ++ Rows.utfFeedsSpec.plain.varTypes Try.prog) (ds ++ gs)).all (· ≤ reachBytes) = true := hsz0
  clear hsz0
  have hval : ∀ (j : Nat) t v, Try.f9.params[j]? = some t → args[j]? = some v → Value.okWide Try.prog W .any base t v := hval0
  have hW' := hW
  obtain ⟨p, q, hA0, hV, rfl, hfz, hnd⟩ := hW
  have hA : DataW.TrodAll enc Try.prog W 0 (fun _ => true) true Try.f9.params.toList args.toList ds p := hA0
  rw [Try.params9] at hA hval hsz
  obtain ⟨v0, vs0, d0, ds0, p0, q0, hargs, rfl, rfl, h0, r0⟩ := trodAll_cons hA
  obtain ⟨rfl, rfl, rfl⟩ := trodAll_nil r0
  obtain rfl : args = #[v0] := by cases args; simp_all
  obtain ⟨rfl, rfl⟩ := trodVars_none hV
  obtain ⟨a0, len0, cap0, rfl⟩ := okWide_slice Try.underlying57 (hval 0 57 v0 rfl rfl)
  have k0 := h0
  have lt0 : ∀ x ∈ p0, x.block < W.heap.size := by obtain ⟨m, hm⟩ := k0; exact DataW.trod_lt m _ _ _ hm
  obtain ⟨A0, L0, C0, b0, w0, s0⟩ : ∃ A L C bs, PB W W.heap.size a0 len0 A L C bs ∧ len0 ≤ 5864062014634 := by
    obtain ⟨fuel, hf⟩ := h0
    exact open_pieces Try.underlying57 Try.underlying22 Try.underlying5 (by kernel_rfl) (by kernel_rfl) (by kernel_rfl) (by kernel_rfl) (x := (_, _)) hf
      (List.all_eq_true.2 fun n hn => List.all_eq_true.1 hsz n (DataW.weights_mem_each (j := 0) (t := 57) rfl rfl n hn))
  clear hA0 hval0
  refine (walk a0 len0 cap0 A0 L0 C0 b0 W w0 s0).mono fun e W' ⟨he, bel⟩ => ?_
  subst he
  exact ⟨_, rfl, _, _, _, [], _, [], hW', trodAll_mk1 (shut_bool Try.underlying4 _), (trodAll_cons_mk (Below.trod laidOut (by kernel_rfl) (of_decide_eq_true (by kernel_rfl)) k0 bel lt0) trodAll_mk0), rfl, bel.frame _, fun h => by cases h⟩

theorem over : Rows.utfFeedsRow.holds Try.pinned (OpenSpec.ofChange Rows.utfFeedsSpec) :=
  OpenClaim.holds_of_wide 9 Try.f9 rfl rfl rfl rfl rfl rfl rfl ⟨rfl, rfl, rfl, rfl, rfl⟩ rfl rfl rfl rfl rfl (by kernel_rfl) Try.func9 (by kernel_rfl)
    (of_decide_eq_true (by kernel_rfl)) (by unfold Func.isWrapper; first | (rw [if_pos (by decide +kernel)]; kernel_rfl) | (rw [if_neg (by decide +kernel)]; exact ⟨rfl, rfl⟩))
    (fun os started H enc _ => lifted os started H enc)

theorem proved : Rows.UtfFeedsSaid := over
#print axioms proved
end Go.Proofs.Ytmdgopclcdmenaa.utfFeeds
