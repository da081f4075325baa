/-
  Proved: 'UtfChecks' answers true at every row of bytes: where they go wrong is told as the reference says, by a Spot by itself; characters and units are counted. No condition beyond the given row's own reach.
-/
import Derived.Test.YtmdgopclcdmenaaRows
import Derived.Test.YtmdgopclcdmenaaUtfY
import Derived.Test.YtmdgopclcdmenaaUtfG
import Derived.WalkKit
import Derived.ProofKit
import Derived.OpenShut
import Derived.ShutString
import Derived.ChangeOld
import Derived.Below
import Derived.SizedLaws
namespace Go.Proofs.Ytmdgopclcdmenaa.utfChecks
open Go.ChangeShapes Go.WideShapes Go.ChangeAt Go.RowKit
open Go.ChangeMaps (open_string shut_string)
set_option linter.unusedVariables false
set_option linter.unusedSimpArgs false

theorem own : ownKnob Try.prog.godebug = none := by kernel_rfl
theorem laidOut : laidOutB Try.prog = true := by kernel_rfl

/-- What is known of a slice of integers that came in. -/
def IsRow (k : IntKind) (w : World) (a : Option Addr) (len cap : Nat) (zs : List Int) : Prop :=
  (a = none ∧ len = 0 ∧ cap = 0 ∧ zs = []) ∨
  ∃ x, a = some x ∧ len ≤ cap ∧ cap ≤ maxLen ∧ zs.length = cap ∧ (∀ i, i < zs.length → w.cell? (x.add i) = some (.int k (zs.getD i 0))) ∧ ∀ n ∈ zs, (Lit.int k n).wf = true

set_option maxRecDepth 100000 in
set_option maxHeartbeats 4000000 in
theorem walk (a0 : Option Addr) (len0 cap0 : Nat) (z0 : List Int) (w : World) (w0 : IsRow .u8 w a0 len0 cap0 z0) (s0 : cap0 ≤ 140737488351232) :
    Calls Try.prog 11 #[.slice a0 len0 cap0] w fun e w' => e = .returned (.bool true) ∧ Below w.heap.size w w' := by
  obtain ⟨hRB, hlc, hcm⟩ := RB.of_row w0
  clear w0 hcm
  generalize hbs : ((z0.take len0).map fun z => UInt8.ofNat z.toNat) = bs at hRB
  clear hbs
  have hbl := hRB.1
  subst hbl
  have HR := Lib.hid hRB
  clear hRB
  have HB := Lib.hid (fun W => beyond_any bs.length W (by omega))
  by_cases hbig : 2147483647 < bs.length
  · rw [show decide (2147483647 < bs.length) = true by simpa using hbig] at HB
    clear hbig
    go_enter Try.func11, Try.ntmps11
    go_wp2_with fail
    refine (HB.out _).mono ?_
    rintro e w' ⟨rfl, rfl⟩
    go_wp2_with fail
    go_ret
    exact ⟨rfl, Below.refl _ _⟩
  rw [show decide (2147483647 < bs.length) = false by simpa using hbig] at HB
  have hn : bs.length ≤ 2147483647 := by omega
  clear hbig
  have HW := Lib.hid (fun W => rwrong_any bs W (by omega))
  have HT := Lib.hid (fun W => tells_any (wrong bs).1 (wrong bs).2 (wrongV bs) W rfl)
  have HU := Lib.hid (fun W => uright_any bs W (by omega))
  have hks := fun W (hW : Below w.heap.size w W) => str_of_RB (HR.out.below hW) cap0
  have HK := Lib.hid hks
  have k0 := hks w (Below.refl _ _)
  clear hks
  go_enter Try.func11, Try.ntmps11
  go_wp2_with fail
  refine (HB.out _).mono ?_
  rintro e w' ⟨rfl, rfl⟩
  go_wp2_with fail
  refine (HW.out _).mono ?_
  rintro e w' ⟨rfl, rfl⟩
  clear k0
  go_wp2_with fail
  refine (roomy_any a0 bs.length cap0 _ bs w HR.out (Nat.le_refl _) (by omega)).mono ?_
  rintro e w1 ⟨rfl, hroom, b1⟩
  have HROOM := Lib.hid hroom
  have B1 := Lib.hid b1
  have l1 : w.heap.size < w1.heap.size := Blk.lt hroom
  clear hroom b1
  go_wp2_with fail
  refine (check_any _ _ _ (w.heap.size + 1) bs w1 (HROOM.out.holds rfl).1 l1 (by omega)).mono ?_
  rintro e w2 ⟨rfl, b2⟩
  have B2 := Lib.hid (keepb B1.out b2)
  have HROOM2 : Hid (RoomB w2 w.heap.size bs) := Blk.below HROOM.out b2 l1
  have l2 := b2.size
  clear b2
  generalize hv : wrongV bs = v at *
  clear hv
  by_cases hr : right bs = true
  · have h0 : (wrong bs).1 = 0 := of_decide_eq_true hr
    rw [h0] at HT
    rw [hr] at HU
    have HC := Lib.hid (fun W => count_yes bs W (by omega) hr)
    have HL := Lib.hid (fun W => rrunes_any bs W (by omega))
    have HUN := Lib.hid (fun W => runits_any bs W (by omega))
    unfold RunesPost at HL
    unfold UnitsPost at HUN
    have hlA := runesF_len bs _ 0 rfl
    have hlB := flat_len (runesF bs 0)
    have hlC : (unitsF bs 0).length ≤ 4294967294 := by unfold unitsF; omega
    rw [h0]
    clear hr h0 hlB
    generalize (wrong bs).2 = y at *
    generalize runesF bs 0 = L at *
    generalize unitsF bs 0 = U at *
    have e1 : ((L.length : Int) == (L.length : Int)) = true := by simp
    have e2 : ((U.length : Int) == (U.length : Int)) = true := by simp
    go_wp2_with fail
    refine (HT.out _).mono ?_
    rintro e w3 ⟨rfl, b3⟩
    have B3 := Lib.hid (keepb B2.out b3)
    have HROOM3 : Hid (RoomB w3 w.heap.size bs) := Blk.below HROOM2.out b3 (by omega)
    have l3 := b3.size
    clear b3
    go_wp2_with fail
    refine (left_yes w.heap.size bs.length cap0 w.heap.size a0 bs w3 HROOM3.out (HR.out.below B3.out) (by omega) (by omega)).mono ?_
    rintro e w4 ⟨rfl, b4⟩
    have B4 := Lib.hid (keepb B3.out b4)
    clear b4
    have k4 := HK.out _ B4.out
    go_wp2_with fail
    clear k4
    refine (HU.out _).mono ?_
    rintro e w5 ⟨rfl, b5⟩
    have B5 := Lib.hid (keepb B4.out b5)
    clear b5
    have k5 := HK.out _ B5.out
    go_wp2_with fail
    clear k5
    refine (HC.out _).mono ?_
    rintro e w6 ⟨rfl, b6⟩
    have B6 := Lib.hid (keepb B5.out b6)
    clear b6
    have k6 := HK.out _ B6.out
    go_wp2_with fail
    clear k6
    refine (HL.out _).mono ?_
    rintro e w7 ⟨A1, c1, A2, c2, rfl, _, _, hc1, hc2, b7⟩
    have B7 := Lib.hid (keepb B6.out b7)
    clear b7
    have k7 := HK.out _ B7.out
    go_wp2_with fail
    clear k7
    refine (HUN.out _).mono ?_
    rintro e w8 ⟨A3, c3, rfl, _, hc3, b8⟩
    have B8 := Lib.hid (keepb B7.out b8)
    clear b8
    go_wp2_with fail
    go_ret
    exact ⟨rfl, B8.out⟩
  · have hr : right bs = false := by simpa using hr
    have h0 : ¬ (wrong bs).1 = 0 := of_decide_eq_false hr
    rw [hr] at HU
    have HC := Lib.hid (fun W => count_no bs W (by omega) hr)
    have t0 : (((wrong bs).1 : Int) == 0) = false := by simpa using h0
    have t1 : (((wrong bs).1 : Int) != 0) = true := by simpa using h0
    clear hr h0
    generalize (wrong bs).1 = x at *
    generalize (wrong bs).2 = y at *
    go_wp2_with fail
    refine (HT.out _).mono ?_
    rintro e w3 ⟨rfl, b3⟩
    have B3 := Lib.hid (keepb B2.out b3)
    have HROOM3 : Hid (RoomB w3 w.heap.size bs) := Blk.below HROOM2.out b3 (by omega)
    have l3 := b3.size
    clear b3
    go_wp2_with fail
    refine (left_yes w.heap.size bs.length cap0 w.heap.size a0 bs w3 HROOM3.out (HR.out.below B3.out) (by omega) (by omega)).mono ?_
    rintro e w4 ⟨rfl, b4⟩
    have B4 := Lib.hid (keepb B3.out b4)
    clear b4
    have k4 := HK.out _ B4.out
    go_wp2_with fail
    clear k4
    refine (HU.out _).mono ?_
    rintro e w5 ⟨rfl, b5⟩
    have B5 := Lib.hid (keepb B4.out b5)
    clear b5
    have k5 := HK.out _ B5.out
    go_wp2_with fail
    clear k5
    refine (HC.out _).mono ?_
    rintro e w6 ⟨rfl, b6⟩
    have B6 := Lib.hid (keepb B5.out b6)
    clear b6
    go_wp2_with fail
    refine (spot_yes _ _ _).mono ?_
    rintro e w7 ⟨rfl, b7⟩
    have B7 := Lib.hid (keepb B6.out b7)
    clear b7
    go_wp2_with fail
    go_ret
    exact ⟨rfl, B7.out⟩

set_option maxRecDepth 100000 in
theorem lifted (os : Os) (started : os.Started) (H : Type) (enc : TypeId × Value → H) :
    ReturnsInHanded {} Try.checked os 11 .any (Rows.utfChecksSpec.pre6 enc Try.prog Try.f11 Rows.utfChecksRow.domain false) (Rows.utfChecksSpec.post enc Try.prog Try.f11 false true false false) := by
  refine returnsInHanded_of_change_sized (C := Try.checked) own started (by kernel_rfl) Try.func11
    (ChangeSpec.witness6 (enc := enc) (C := Try.checked) false ⟨#[], #[.slice none 0 0], []⟩ 8 (by kernel_rfl) (by kernel_rfl) (by kernel_rfl) (by kernel_rfl)) ?_
  intro W base args ds gs before hval0 hW hcnd hsz0 _
  have hsz : (DataW.weightsEach Try.prog (Try.f11.params.toList ++ Rows.utfChecksSpec.plain.varTypes Try.prog) (ds ++ gs)).all (· ≤ reachBytes) = true := hsz0
  clear hsz0
  have hval : ∀ (j : Nat) t v, Try.f11.params[j]? = some t → args[j]? = some v → Value.okWide Try.prog W .any base t v := hval0
  have hW' := hW
  obtain ⟨p, q, hA0, hV, rfl, hfz, hnd⟩ := hW
  have hA : DataW.TrodAll enc Try.prog W 0 (fun _ => true) true Try.f11.params.toList args.toList ds p := hA0
  rw [Try.params11] at hA hval hsz
  obtain ⟨v0, vs0, d0, ds0, p0, q0, hargs, rfl, rfl, h0, r0⟩ := trodAll_cons hA
  obtain ⟨rfl, rfl, rfl⟩ := trodAll_nil r0
  obtain rfl : args = #[v0] := by cases args; simp_all
  obtain ⟨rfl, rfl⟩ := trodVars_none hV
  obtain ⟨a0, len0, cap0, rfl⟩ := okWide_slice Try.underlying22 (hval 0 22 v0 rfl rfl)
  have k0 := h0
  have lt0 : ∀ x ∈ p0, x.block < W.heap.size := by obtain ⟨m, hm⟩ := k0; exact DataW.trod_lt m _ _ _ hm
  obtain ⟨z0, w0, s0⟩ : ∃ zs, IsRow .u8 W a0 len0 cap0 zs ∧ cap0 ≤ 140737488351232 := by
    obtain ⟨fuel, hf⟩ := h0
    rcases open_ints Try.underlying22 Try.underlying5 (by kernel_rfl) hf with ⟨hcs, _⟩ | ⟨x, l, c, zs, hcs, _, hl, hm, hz, hdx, hcell, hwz⟩
    · simp [Value.cells] at hcs
      obtain ⟨rfl, rfl, rfl⟩ := hcs
      exact ⟨[], .inl ⟨rfl, rfl, rfl, rfl⟩, by omega⟩
    · simp [Value.cells] at hcs
      obtain ⟨rfl, rfl, rfl⟩ := hcs
      have hz' : zs.length = cap0 := by simpa using hz
      injection hdx with hdx1 hdx2
      have hs := sized_slice hsz (j := 0) (t := 22) (e := 5) (elems := lits .u8 (zs.take len0)) (spare := lits .u8 (zs.drop len0)) rfl (by rw [← hdx1]; rfl) Try.underlying22
      rw [(by kernel_rfl : Try.prog.bytesOf 5 = 1)] at hs
      simp only [lits, List.length_map, List.length_take, List.length_drop, reachBytes, hz'] at hs
      have hs : cap0 ≤ 140737488351232 := by omega
      exact ⟨zs, .inr ⟨_, rfl, hl, hm, hz', hcell, hwz⟩, by simpa [lits, hz', reachBytes] using hs⟩
  clear hA0 hval0
  refine (walk a0 len0 cap0 z0 W w0 s0).mono fun e W' ⟨he, bel⟩ => ?_
  subst he
  exact ⟨_, rfl, _, _, _, [], _, [], hW', trodAll_mk1 (shut_bool Try.underlying4 _), (trodAll_cons_mk (Below.trod laidOut (by kernel_rfl) (of_decide_eq_true (by kernel_rfl)) k0 bel lt0) trodAll_mk0), rfl, bel.frame _, fun h => by cases h⟩

theorem over : Rows.utfChecksRow.holds Try.pinned (OpenSpec.ofChange Rows.utfChecksSpec) :=
  OpenClaim.holds_of_wide 11 Try.f11 rfl rfl rfl rfl rfl rfl rfl ⟨rfl, rfl, rfl, rfl, rfl⟩ rfl rfl rfl rfl rfl (by kernel_rfl) Try.func11 (by kernel_rfl)
    (of_decide_eq_true (by kernel_rfl)) (by unfold Func.isWrapper; first | (rw [if_pos (by decide +kernel)]; kernel_rfl) | (rw [if_neg (by decide +kernel)]; exact ⟨rfl, rfl⟩))
    (fun os started H enc _ => lifted os started H enc)

theorem proved : Rows.UtfChecksSaid := over
#print axioms proved
end Go.Proofs.Ytmdgopclcdmenaa.utfChecks
