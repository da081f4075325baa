/-
  Proved: a text's units, and back; the units lie in memory of their own.
-/
import Derived.Test.YtmdgopclcdmenaaRows
import Derived.Test.YtmdgopclcdmenaaUtfRF
import Derived.Test.YtmdgopclcdmenaaUtfUA
import Derived.Test.YtmdgopclcdmenaaUtfG
import Derived.WalkKit
import Derived.ProofKit
import Derived.OpenShut
import Derived.ShutString
import Derived.ChangeOld
import Derived.Below
import Derived.SizedLaws
namespace Go.Proofs.Ytmdgopclcdmenaa.utfUnits
open Go.ChangeShapes Go.WideShapes Go.ChangeAt Go.RowKit
open Go.ChangeMaps (open_string shut_string)
set_option linter.unusedVariables false
set_option linter.unusedSimpArgs false

theorem own : ownKnob Try.prog.godebug = none := by kernel_rfl
theorem laidOut : laidOutB Try.prog = true := by kernel_rfl

theorem units_lt (s : List UInt8) : ∀ x ∈ unitsF s 0, x < 65536 := by
  intro x hx
  unfold unitsF at hx
  obtain ⟨y, hy, hxy⟩ := List.mem_flatMap.1 hx
  have hs := runesF_scal s _ 0 rfl y hy
  unfold Scal at hs
  unfold unitsOf at hxy
  split at hxy
  · simp at hxy; omega
  · simp at hxy; omega
theorem units_len (s : List UInt8) : (unitsF s 0).length ≤ 2 * s.length := by
  have h1 := flat_len (runesF s 0)
  have h2 := runesF_len s _ 0 rfl
  unfold unitsF
  omega
theorem all_uv : ∀ l : List Value, (∀ u ∈ l, okU u) → ∃ L : List Nat, l = L.map uv_
  | [], _ => ⟨[], rfl⟩
  | u :: l, h => by
    obtain ⟨m, hm, _⟩ := h u (by simp)
    obtain ⟨L, hL⟩ := all_uv l (fun x hx => h x (by simp [hx]))
    exact ⟨m :: L, by rw [hm, hL]; rfl⟩
/-- A row of the call's own, with its spare cells. -/
theorem own_cells {w : World} {base n : Nat} {A : Option Addr} {c : Nat} {U : List Nat} (h : OwnR w base 74 okU (.slice A n c) n (U.map uv_)) :
    (A = none ∧ c = 0) ∨ ∃ g, A = some ⟨g, 0, none⟩ ∧ base ≤ g ∧ c ≤ maxLen ∧ ∃ L : List Nat, L.length = c ∧ Blk w g 74 (L.map uv_).toArray := by
  obtain ⟨hl, h | ⟨g, cap, rest, hv, hb, hB, hc, hm, hr⟩⟩ := h
  · left
    obtain ⟨h1, h2⟩ := h
    injection h1 with h1 h3 h4
    exact ⟨h1, h4⟩
  · right
    injection hv with h1 h3 h4
    subst h1 h4
    obtain ⟨L, rfl⟩ := all_uv rest hr
    refine ⟨g, rfl, hb, hm, U ++ L, by simp at hl hc ⊢; omega, by rw [List.map_append]; exact hB⟩
theorem Blk.setu {w : World} {g : Nat} {t : TypeId} {L : List Nat} (h : Blk w g t (L.map uv_).toArray) (i : Nat) (m : Nat) : Blk (w.setCell ⟨g, i, none⟩ (uv_ m)) g t ((L.set i m).map uv_).toArray := by
  have := h.set1 i (uv_ m)
  rw [List.map_set]
  rwa [List.setIfInBounds_toArray] at this

set_option maxRecDepth 100000 in
set_option maxHeartbeats 4000000 in
theorem walk (a0 : ByteArray) (w : World) (w0 : a0.size ≤ maxLen) (s0 : a0.size ≤ 140737488351232) :
    Calls Try.prog 12 #[.string a0] w fun e w' => e = .returned (.bool true) ∧ Below w.heap.size w w' := by
  obtain ⟨s, rfl⟩ : ∃ s : List UInt8, a0 = ⟨s.toArray⟩ := ⟨a0.data.toList, by simp⟩
  have s0 : s.length ≤ 140737488351232 := s0
  clear w0
  have HB := Lib.hid (fun W => beyond_any s.length W (by omega))
  by_cases hbig : 2147483647 < s.length
  · rw [show decide (2147483647 < s.length) = true by simpa using hbig] at HB
    clear hbig
    go_enter Try.func12, Try.ntmps12
    go_wp2_with fail
    refine (HB.out _).mono ?_
    rintro e w' ⟨rfl, rfl⟩
    go_wp2_with fail
    go_ret
    exact ⟨rfl, Below.refl _ _⟩
  rw [show decide (2147483647 < s.length) = false by simpa using hbig] at HB
  have hn : s.length ≤ 2147483647 := by omega
  clear hbig s0
  have HW := Lib.hid (fun W => rwrong_any s W (by omega))
  cases hr : right s with
  | false =>
    have HU := Lib.hid (fun W => units_no s W (by omega) hr)
    have hw1 : ((((wrong s).1 : Nat) : Int) == 0) = false := by have : ¬ (wrong s).1 = 0 := of_decide_eq_false hr; simp; omega
    have hw2 : ((((wrong s).1 : Nat) : Int) != 0) = true := by have : ¬ (wrong s).1 = 0 := of_decide_eq_false hr; simp; omega
    clear hr
    generalize (wrong s).1 = x at *
    generalize (wrong s).2 = y at *
    have HS := Lib.hid (fun W => spot_yes (x : Int) (y : Int) W)
    go_enter Try.func12, Try.ntmps12
    go_wp2_with fail
    refine (HB.out _).mono ?_
    rintro e w' ⟨rfl, rfl⟩
    go_wp2_with fail
    refine (HU.out _).mono ?_
    rintro e w1 ⟨rfl, b1⟩
    have B1 := Lib.hid b1
    clear b1
    go_wp2_with fail
    refine (HW.out _).mono ?_
    rintro e w' ⟨rfl, rfl⟩
    go_wp2_with fail
    refine (HS.out _).mono ?_
    rintro e w2 ⟨rfl, b2⟩
    have B2 := Lib.hid (keepb B1.out b2)
    clear b2
    go_wp2_with fail
    go_ret
    exact ⟨rfl, B2.out⟩
  | true =>
    have HU := Lib.hid (fun W => units_yes s W (by omega) hr)
    have HRU := Lib.hid (fun W => runits_any s W (by omega))
    have hw0 : (wrong s).1 = 0 := of_decide_eq_true hr
    rw [hw0] at HW
    have hfl := fuL_of s _ 0 rfl (right_ok hr)
    rw [List.drop_zero] at hfl
    have HFV := Lib.hid (fuV_none hfl)
    have HLT := Lib.hid (units_lt s)
    have hul := units_len s
    unfold UnitsPost at HRU
    unfold UnitsOwn at HU
    clear hr hw0 hfl
    generalize unitsF s 0 = U at *
    generalize (wrong s).2 = y at *
    have hee : (s == s) = true := by simp
    go_enter Try.func12, Try.ntmps12
    go_wp2_with fail
    refine (HB.out _).mono ?_
    rintro e w' ⟨rfl, rfl⟩
    go_wp2_with fail
    refine (HU.out _).mono ?_
    rintro e w1 ⟨A1, c1, rfl, hu1, b1⟩
    have HU1 := Lib.hid hu1
    have B1 := Lib.hid b1
    obtain ⟨_, _, hv1, hc1⟩ := hu1.shape
    injection hv1 with hv1 _ hv2
    subst hv1 hv2
    clear hu1 b1
    go_wp2_with fail
    refine (HW.out _).mono ?_
    rintro e w' ⟨rfl, rfl⟩
    go_wp2_with fail
    refine (HRU.out _).mono ?_
    rintro e w2 ⟨A2, c2, rfl, hu2, hc2, b2⟩
    have HU12 := Lib.hid (HU1.out.below b2)
    have HU2 := Lib.hid hu2
    have B2 := Lib.hid (keepb B1.out b2)
    have S2 := Lib.hid b2.size
    clear hu2 b2
    go_wp2_with fail
    refine (sameUnits A1 A2 _ _ U U w2 HU12.out.rv HU2.out (by omega) (by omega)).mono ?_
    rw [show decide (U = U) = true from decide_eq_true rfl]
    rintro e w3 ⟨rfl, b3⟩
    have HU13 := Lib.hid (HU12.out.below b3)
    have B3 := Lib.hid (keepb B2.out b3)
    clear b3
    go_wp2_with fail
    refine (fromUnits A1 _ U w3 HU13.out.rv HLT.out (by omega) hc1).mono ?_
    rw [HFV.out]
    rintro e w4 ⟨rfl, b4⟩
    have HU14 := Lib.hid (HU13.out.below b4)
    have B4 := Lib.hid (keepb B3.out b4)
    clear b4
    go_wp2_with fail
    refine (HU.out _).mono ?_
    rintro e w5 ⟨A5, c5, rfl, hu5, b5⟩
    have HU15 := Lib.hid (HU14.out.below b5)
    have HU5 := Lib.hid hu5
    have B5 := Lib.hid (keepb B4.out b5)
    have hlt1 : ∀ k, (Value.slice A1 U.length c1).ownBlock = some k → k < w4.heap.size := fun k hk => (HU14.out.lt k hk).2
    have HLT1 := Lib.hid hlt1
    clear hu5 b5 hlt1
    have hsub := own_cells HU15.out
    have hcm : c1 ≤ 9223372036854775807 := by rcases hsub with ⟨_, h⟩ | ⟨_, _, _, h, _⟩ <;> (try unfold maxLen at h) <;> omega
    have HC := Lib.hid hsub
    clear hsub
    go_wp2_with fail
    go_loopw [12] (fun i wr => ∃ j : Nat, j ≤ c1 ∧ i = .int .i64 j ∧ ((A1 = none ∧ c1 = 0) ∨ ∃ g, A1 = some ⟨g, 0, none⟩ ∧ w.heap.size ≤ g ∧ g < w4.heap.size ∧ ∃ L : List Nat, L.length = c1 ∧ Blk wr g 74 (L.map uv_).toArray) ∧ OwnR wr w4.heap.size 74 okU (.slice A5 U.length c5) U.length (U.map uv_) ∧ Below w.heap.size w wr) (fun i _ => c1 - (intOf i).toNat)
    case atStart =>
      refine ⟨0, by omega, rfl, ?_, HU5.out, B5.out⟩
      rcases HC.out with h | ⟨g, rfl, h1, h2, L, hL, hB⟩
      · exact .inl h
      · exact .inr ⟨g, rfl, h1, HLT1.out g rfl, L, hL, hB⟩
    case round =>
      obtain ⟨j, hj, rfl, hrow, hu5, hbel⟩ := hrel
      have HU5 := Lib.hid hu5
      have HBE := Lib.hid hbel
      have HROW := Lib.hid hrow
      clear hrow hu5 hbel
      by_cases hlt : j < c1
      · obtain ⟨g, rfl, hg1, hg2, L, hL, hB⟩ : ∃ g, A1 = some ⟨g, 0, none⟩ ∧ w.heap.size ≤ g ∧ g < w4.heap.size ∧ ∃ L : List Nat, L.length = c1 ∧ Blk wr g 74 (L.map uv_).toArray := by
          rcases HROW.out with ⟨_, h⟩ | h
          · omega
          · exact h
        have hc : wr.cell? ⟨g, j, none⟩ = some (uv_ (L.getD j 0)) := by rw [hB.cell]; simp [List.getD, show j < L.length by omega]
        have hf := hB.frozen j
        have HB := Lib.hid hB
        have HL := Lib.hid hL
        have hgs := hB.lt
        have hne : (Value.slice A5 U.length c5).ownBlock ≠ some g := fun h => by have := (HU5.out.lt g h).1; omega
        have HN := Lib.hid hne
        clear hB hL hne
        go_wp2_with fail
        go_roundw
        case rel => exact ⟨j + 1, by omega, by go_num, .inr ⟨g, rfl, hg1, hg2, L.set j 1, by simpa using HL.out, (Blk.setu HB.out j 1)⟩, HU5.out.but ((But.refl _ _ _).setCell (.inl rfl) _) HN.out, HBE.out.setCell hg1 _⟩
        case measure => simp [intOf]; omega
      · go_wp2_with fail
        refine (HRU.out _).mono ?_
        rintro e w6 ⟨A6, c6, rfl, hu6, hc6, b6⟩
        have HU56 := Lib.hid (HU5.out.below b6)
        have HU6 := Lib.hid hu6
        have B6 := Lib.hid (keepb HBE.out b6)
        clear hu6 b6
        go_wp2_with fail
        refine (sameUnits A5 A6 _ _ U U w6 HU56.out.rv HU6.out (by omega) (by omega)).mono ?_
        rw [show decide (U = U) = true from decide_eq_true rfl]
        rintro e w7 ⟨rfl, b7⟩
        have B7 := Lib.hid (keepb B6.out b7)
        clear b7
        go_wp2_with fail
        go_ret
        exact ⟨rfl, B7.out⟩

set_option maxRecDepth 100000 in
theorem lifted (os : Os) (started : os.Started) (H : Type) (enc : TypeId × Value → H) :
    ReturnsInHanded {} Try.checked os 12 .any (Rows.utfUnitsSpec.pre6 enc Try.prog Try.f12 Rows.utfUnitsRow.domain false) (Rows.utfUnitsSpec.post enc Try.prog Try.f12 false true false false) := by
  refine returnsInHanded_of_change_sized (C := Try.checked) own started (by kernel_rfl) Try.func12
    (ChangeSpec.witness6 (enc := enc) (C := Try.checked) false ⟨#[], #[.string ByteArray.empty], []⟩ 8 (by kernel_rfl) (by kernel_rfl) (by kernel_rfl) (by kernel_rfl)) ?_
  intro W base args ds gs before hval0 hW hcnd hsz0 _
  have hsz : (DataW.weightsEach Try.prog (Try.f12.params.toList ++ Rows.utfUnitsSpec.plain.varTypes Try.prog) (ds ++ gs)).all (· ≤ reachBytes) = true := hsz0
  clear hsz0
  have hval : ∀ (j : Nat) t v, Try.f12.params[j]? = some t → args[j]? = some v → Value.okWide Try.prog W .any base t v := hval0
  have hW' := hW
  obtain ⟨p, q, hA0, hV, rfl, hfz, hnd⟩ := hW
  have hA : DataW.TrodAll enc Try.prog W 0 (fun _ => true) true Try.f12.params.toList args.toList ds p := hA0
  rw [Try.params12] at hA hval hsz
  obtain ⟨v0, vs0, d0, ds0, p0, q0, hargs, rfl, rfl, h0, r0⟩ := trodAll_cons hA
  obtain ⟨rfl, rfl, rfl⟩ := trodAll_nil r0
  obtain rfl : args = #[v0] := by cases args; simp_all
  obtain ⟨rfl, rfl⟩ := trodVars_none hV
  obtain ⟨a0, rfl, rfl, rfl, w0⟩ := open_string Try.underlying9 (hval 0 9 v0 rfl rfl) h0
  have s0 : a0.size ≤ 140737488351232 := by
    have := sized_string hsz (j := 0) (t := 9) rfl rfl
    simpa [reachBytes] using this
  clear hA0 hval0
  refine (walk a0 W w0 s0).mono fun e W' ⟨he, bel⟩ => ?_
  subst he
  exact ⟨_, rfl, _, _, _, [], _, [], hW', trodAll_mk1 (shut_bool Try.underlying4 _), (trodAll_cons_mk (shut_string Try.underlying9 w0) trodAll_mk0), rfl, bel.frame _, fun h => by cases h⟩

theorem over : Rows.utfUnitsRow.holds Try.pinned (OpenSpec.ofChange Rows.utfUnitsSpec) :=
  OpenClaim.holds_of_wide 12 Try.f12 rfl rfl rfl rfl rfl rfl rfl ⟨rfl, rfl, rfl, rfl, rfl⟩ rfl rfl rfl rfl rfl (by kernel_rfl) Try.func12 (by kernel_rfl)
    (of_decide_eq_true (by kernel_rfl)) (by unfold Func.isWrapper; first | (rw [if_pos (by decide +kernel)]; kernel_rfl) | (rw [if_neg (by decide +kernel)]; exact ⟨rfl, rfl⟩))
    (fun os started H enc _ => lifted os started H enc)

theorem proved : Rows.UtfUnitsSaid := over
#print axioms proved
end Go.Proofs.Ytmdgopclcdmenaa.utfUnits
