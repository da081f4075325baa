/-
  Proved: 'UtfOrder' answers true at every three texts: what does not stand behind what does not stand behind a third one does not stand behind that. No condition beyond the given values' own reach.
-/
import Derived.Test.YtmdgopclcdmenaaRows
import Derived.Test.YtmdgopclcdmenaaUtfX
import Derived.Test.YtmdgopclcdmenaaUtfF
import Derived.WalkKit
import Derived.ProofKit
import Derived.OpenShut
import Derived.ShutString
import Derived.ChangeOld
import Derived.Below
import Derived.SizedLaws
namespace Go.Proofs.Ytmdgopclcdmenaa.utfOrder
open Go.ChangeShapes Go.WideShapes Go.ChangeAt Go.RowKit
open Go.ChangeMaps (open_string shut_string)
set_option linter.unusedVariables false
set_option linter.unusedSimpArgs false

theorem own : ownKnob Try.prog.godebug = none := by kernel_rfl
theorem laidOut : laidOutB Try.prog = true := by kernel_rfl

theorem right_one (c : UInt8) (h : c.toNat < 128) : right [c] = true := by
  have hw : wd c.toNat = 1 := by unfold wd; rw [if_pos h]
  have hf : frun fini [c] = ⟨1, [], false⟩ := by
    show fstep fini c = _
    exact fstep_good rfl (show tk [] c = some [] by simp [tk, hw])
  have := (fd_good [c] (by rw [hf])).2.2
  rw [hf, if_pos rfl] at this
  unfold right
  rw [this]
  rfl
theorem one_two : ucompare [97] [98] = -1 ∧ ucompare [98] [97] = 1 := by
  have h1 : ucompare [97] [98] = -1 := by
    rw [ucompare_tt (right_one 97 (by decide)) (right_one 98 (by decide)), cmp_right [97] [98] 0 ⟨by simp, by simp, fun k hk => absurd hk (by omega), fun _ _ => by decide⟩ (right_one 97 (by decide)) (right_one 98 (by decide))]
    decide
  exact ⟨h1, by rw [ucompare_anti [97] [98], h1]; rfl⟩

set_option maxRecDepth 100000 in
set_option maxHeartbeats 2000000 in
theorem walk (a0 : ByteArray) (a1 : ByteArray) (a2 : ByteArray) (w : World) (w0 : a0.size ≤ maxLen) (s0 : a0.size ≤ 140737488351232) (w1 : a1.size ≤ maxLen) (s1 : a1.size ≤ 140737488351232) (w2 : a2.size ≤ maxLen) (s2 : a2.size ≤ 140737488351232) :
    Calls Try.prog 8 #[.string a0, .string a1, .string a2] w fun e w' => e = .returned (.bool true) ∧ Below w.heap.size w w' := by
  obtain ⟨a, rfl⟩ : ∃ s : List UInt8, a0 = ⟨s.toArray⟩ := ⟨a0.data.toList, by simp⟩
  obtain ⟨b, rfl⟩ : ∃ s : List UInt8, a1 = ⟨s.toArray⟩ := ⟨a1.data.toList, by simp⟩
  obtain ⟨c, rfl⟩ : ∃ s : List UInt8, a2 = ⟨s.toArray⟩ := ⟨a2.data.toList, by simp⟩
  have s0 : a.length ≤ 140737488351232 := s0
  have s1 : b.length ≤ 140737488351232 := s1
  have s2 : c.length ≤ 140737488351232 := s2
  clear w0 w1 w2
  have hsum : ((a.length : Int) + b.length + c.length) = ((a.length + b.length + c.length : Nat) : Int) := by omega
  have HB := Lib.hid (fun W => beyond_any (a.length + b.length + c.length) W (by omega))
  rw [← hsum] at HB
  by_cases hbig : 2147483647 < a.length + b.length + c.length
  · rw [show decide (2147483647 < a.length + b.length + c.length) = true by simpa using hbig] at HB
    clear hbig hsum
    go_enter Try.func8, Try.ntmps8
    go_wp2_with fail
    refine (HB.out _).mono ?_
    rintro e w' ⟨rfl, rfl⟩
    go_wp2_with fail
    go_ret
    exact ⟨rfl, Below.refl _ _⟩
  rw [show decide (2147483647 < a.length + b.length + c.length) = false by simpa using hbig] at HB
  have H1 := Lib.hid (fun W => pcompare_any [97] [98] W (by decide) (by decide))
  have H2 := Lib.hid (fun W => pcompare_any [98] [97] W (by decide) (by decide))
  rw [one_two.1] at H1
  rw [one_two.2] at H2
  have HP := Lib.hid (fun W => pcompare_any a b W (by omega) (by omega))
  have HQ := Lib.hid (fun W => pcompare_any b c W (by omega) (by omega))
  have HR := Lib.hid (fun W => pcompare_any a c W (by omega) (by omega))
  have HT := Lib.hid (ucompare_trans a b c)
  clear hbig hsum
  generalize ucompare a b = x at *
  generalize ucompare b c = y at *
  generalize ucompare a c = z at *
  by_cases hx : x ≤ 0
  · by_cases hy : y ≤ 0
    · have hz := HT.out hx hy
      go_enter Try.func8, Try.ntmps8
      go_wp2_with fail
      refine (HB.out _).mono ?_
      rintro e w' ⟨rfl, rfl⟩
      go_wp2_with fail
      refine (H1.out _).mono ?_
      rintro e w1 ⟨rfl, b1⟩
      have B1 := Lib.hid b1
      clear b1
      go_wp2_with fail
      refine (H2.out _).mono ?_
      rintro e w2 ⟨rfl, b2⟩
      have B2 := Lib.hid (keepb B1.out b2)
      clear b2
      go_wp2_with fail
      refine (HP.out _).mono ?_
      rintro e w3 ⟨rfl, b3⟩
      have B3 := Lib.hid (keepb B2.out b3)
      clear b3
      go_wp2_with fail
      refine (HQ.out _).mono ?_
      rintro e w4 ⟨rfl, b4⟩
      have B4 := Lib.hid (keepb B3.out b4)
      clear b4
      go_wp2_with fail
      refine (HR.out _).mono ?_
      rintro e w5 ⟨rfl, b5⟩
      have B5 := Lib.hid (keepb B4.out b5)
      clear b5
      go_wp2_with fail
      go_ret
      exact ⟨rfl, B5.out⟩
    · have hy' : decide (y ≤ 0) = false := by simpa using hy
      clear hy
      go_enter Try.func8, Try.ntmps8
      go_wp2_with fail
      refine (HB.out _).mono ?_
      rintro e w' ⟨rfl, rfl⟩
      go_wp2_with fail
      refine (H1.out _).mono ?_
      rintro e w1 ⟨rfl, b1⟩
      have B1 := Lib.hid b1
      clear b1
      go_wp2_with fail
      refine (H2.out _).mono ?_
      rintro e w2 ⟨rfl, b2⟩
      have B2 := Lib.hid (keepb B1.out b2)
      clear b2
      go_wp2_with fail
      refine (HP.out _).mono ?_
      rintro e w3 ⟨rfl, b3⟩
      have B3 := Lib.hid (keepb B2.out b3)
      clear b3
      go_wp2_with fail
      refine (HQ.out _).mono ?_
      rintro e w4 ⟨rfl, b4⟩
      have B4 := Lib.hid (keepb B3.out b4)
      clear b4
      go_wp2_with fail
      go_ret
      exact ⟨rfl, B4.out⟩
  · have hx' : decide (x ≤ 0) = false := by simpa using hx
    clear hx
    go_enter Try.func8, Try.ntmps8
    go_wp2_with fail
    refine (HB.out _).mono ?_
    rintro e w' ⟨rfl, rfl⟩
    go_wp2_with fail
    refine (H1.out _).mono ?_
    rintro e w1 ⟨rfl, b1⟩
    have B1 := Lib.hid b1
    clear b1
    go_wp2_with fail
    refine (H2.out _).mono ?_
    rintro e w2 ⟨rfl, b2⟩
    have B2 := Lib.hid (keepb B1.out b2)
    clear b2
    go_wp2_with fail
    refine (HP.out _).mono ?_
    rintro e w3 ⟨rfl, b3⟩
    have B3 := Lib.hid (keepb B2.out b3)
    clear b3
    go_wp2_with fail
    go_ret
    exact ⟨rfl, B3.out⟩

set_option maxRecDepth 100000 in
theorem lifted (os : Os) (started : os.Started) (H : Type) (enc : TypeId × Value → H) :
    ReturnsInHanded {} Try.checked os 8 .any (Rows.utfOrderSpec.pre6 enc Try.prog Try.f8 Rows.utfOrderRow.domain false) (Rows.utfOrderSpec.post enc Try.prog Try.f8 false true false false) := by
  refine returnsInHanded_of_change_sized (C := Try.checked) own started (by kernel_rfl) Try.func8
    (ChangeSpec.witness6 (enc := enc) (C := Try.checked) false ⟨#[], #[.string ByteArray.empty, .string ByteArray.empty, .string ByteArray.empty], []⟩ 8 (by kernel_rfl) (by kernel_rfl) (by kernel_rfl) (by kernel_rfl)) ?_
  intro W base args ds gs before hval0 hW hcnd hsz0 _
  have hsz : (DataW.weightsEach Try.prog (Try.f8.params.toList ++ Rows.utfOrderSpec.plain.varTypes Try.prog) (ds ++ gs)).all (· ≤ reachBytes) = true := hsz0
  clear hsz0
  have hval : ∀ (j : Nat) t v, Try.f8.params[j]? = some t → args[j]? = some v → Value.okWide Try.prog W .any base t v := hval0
  have hW' := hW
  obtain ⟨p, q, hA0, hV, rfl, hfz, hnd⟩ := hW
  have hA : DataW.TrodAll enc Try.prog W 0 (fun _ => true) true Try.f8.params.toList args.toList ds p := hA0
  rw [Try.params8] at hA hval hsz
  obtain ⟨v0, vs0, d0, ds0, p0, q0, hargs, rfl, rfl, h0, r0⟩ := trodAll_cons hA
  obtain ⟨v1, vs1, d1, ds1, p1, q1, rfl, rfl, rfl, h1, r1⟩ := trodAll_cons r0
  obtain ⟨v2, vs2, d2, ds2, p2, q2, rfl, rfl, rfl, h2, r2⟩ := trodAll_cons r1
  obtain ⟨rfl, rfl, rfl⟩ := trodAll_nil r2
  obtain rfl : args = #[v0, v1, v2] := by cases args; simp_all
  obtain ⟨rfl, rfl⟩ := trodVars_none hV
  obtain ⟨a0, rfl, rfl, rfl, w0⟩ := open_string Try.underlying9 (hval 0 9 v0 rfl rfl) h0
  have s0 : a0.size ≤ 140737488351232 := by
    have := sized_string hsz (j := 0) (t := 9) rfl rfl
    simpa [reachBytes] using this
  obtain ⟨a1, rfl, rfl, rfl, w1⟩ := open_string Try.underlying9 (hval 1 9 v1 rfl rfl) h1
  have s1 : a1.size ≤ 140737488351232 := by
    have := sized_string hsz (j := 1) (t := 9) rfl rfl
    simpa [reachBytes] using this
  obtain ⟨a2, rfl, rfl, rfl, w2⟩ := open_string Try.underlying9 (hval 2 9 v2 rfl rfl) h2
  have s2 : a2.size ≤ 140737488351232 := by
    have := sized_string hsz (j := 2) (t := 9) rfl rfl
    simpa [reachBytes] using this
  clear hA0 hval0
  refine (walk a0 a1 a2 W w0 s0 w1 s1 w2 s2).mono fun e W' ⟨he, bel⟩ => ?_
  subst he
  exact ⟨_, rfl, _, _, _, [], _, [], hW', trodAll_mk1 (shut_bool Try.underlying4 _), (trodAll_cons_mk (shut_string Try.underlying9 w0) (trodAll_cons_mk (shut_string Try.underlying9 w1) (trodAll_cons_mk (shut_string Try.underlying9 w2) trodAll_mk0))), rfl, bel.frame _, fun h => by cases h⟩

theorem over : Rows.utfOrderRow.holds Try.pinned (OpenSpec.ofChange Rows.utfOrderSpec) :=
  OpenClaim.holds_of_wide 8 Try.f8 rfl rfl rfl rfl rfl rfl rfl ⟨rfl, rfl, rfl, rfl, rfl⟩ rfl rfl rfl rfl rfl (by kernel_rfl) Try.func8 (by kernel_rfl)
    (of_decide_eq_true (by kernel_rfl)) (by unfold Func.isWrapper; first | (rw [if_pos (by decide +kernel)]; kernel_rfl) | (rw [if_neg (by decide +kernel)]; exact ⟨rfl, rfl⟩))
    (fun os started H enc _ => lifted os started H enc)

theorem proved : Rows.UtfOrderSaid := over
#print axioms proved
end Go.Proofs.Ytmdgopclcdmenaa.utfOrder
