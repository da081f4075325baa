/-
  Proved: 'UtfEncodes' answers true at every number: a character's form is the reference's, it lies in memory of its own, and Decode leads back; of what is no character ErrArg is told. No condition beyond the given value's own.
-/
import Derived.Test.YtmdgopclcdmenaaRows
import Derived.Test.YtmdgopclcdmenaaUtfC
import Derived.Test.YtmdgopclcdmenaaUtfE
import Derived.Test.YtmdgopclcdmenaaUtfF
import Derived.WalkKit
import Derived.ProofKit
import Derived.OpenShut
import Derived.ShutString
import Derived.ChangeOld
import Derived.Below
namespace Go.Proofs.Ytmdgopclcdmenaa.utfEncodes
open Go.ChangeShapes Go.WideShapes Go.ChangeAt Go.RowKit
open Go.ChangeMaps (open_string shut_string)
set_option linter.unusedVariables false
set_option linter.unusedSimpArgs false

theorem own : ownKnob Try.prog.godebug = none := by kernel_rfl
theorem laidOut : laidOutB Try.prog = true := by kernel_rfl

set_option maxRecDepth 100000 in
set_option maxHeartbeats 4000000 in
theorem walk (a0 : Int) (w : World) (w0 : (Lit.int .i32 a0).wf = true) :
    Calls Try.prog 3 #[.int .i32 a0] w fun e w' => e = .returned (.bool true) ∧ Below w.heap.size w w' := by
  clear w0
  have HE := Lib.hid (fun W => encode_any a0 W)
  by_cases hs : scalB a0 = true
  case neg =>
    have hs : scalB a0 = false := by simpa using hs
    have HS := Lib.hid (fun W => scalar_any a0 W)
    rw [hs] at HS
    have HR := Lib.hid (fun W => rencode_no a0 W hs)
    have H := Lib.hid hs
    clear hs
    go_enter Try.func3, Try.ntmps3
    go_wp2_with fail
    refine (HE.out _).mono ?_
    rintro e w1 ⟨h1, _⟩
    obtain ⟨rfl, hb1⟩ := h1 H.out
    have HB1 := Lib.hid hb1
    clear h1 hb1
    go_wp2_with fail
    refine (HR.out _).mono ?_
    rintro e w' ⟨rfl, rfl⟩
    go_wp2_with fail
    refine (HS.out _).mono ?_
    rintro e w' ⟨rfl, rfl⟩
    go_wp2_with fail
    refine (errno_yes _ _).mono ?_
    rintro e w' ⟨rfl, rfl⟩
    go_wp2_with fail
    go_ret
    exact ⟨rfl, HB1.out⟩
  obtain ⟨n, rfl, hn⟩ := scalB_nat hs
  have HS := Lib.hid (fun W => scalar_any (n : Int) W)
  rw [hs] at HS
  have HR := Lib.hid (fun W => rencode_ok n W hn)
  have HN := Lib.hid hn
  have hel := enc_le n
  have hch := ch_mid [] [] n hn
  have hch : chAt (enc n) 0 = ⟨n, (enc n).length, 0, 0⟩ := by simpa using hch
  have HCH := Lib.hid hch
  have hen0 : 0 < (enc n).length := by rw [enc_length]; (repeat' split) <;> omega
  clear hs hn hch
  go_enter Try.func3, Try.ntmps3
  go_wp2_with fail
  refine (HE.out _).mono ?_
  rintro e w1 ⟨_, h1⟩
  obtain ⟨v, rfl, l1, rfl, ht1, hl1, hm1, hbm1, hb1⟩ := h1 n rfl HN.out
  have HBM1 := Lib.hid hbm1
  have HB1 := Lib.hid hb1
  have HT1 := Lib.hid ht1
  have hs1 := hbm1.lt
  clear h1 hb1 hbm1 ht1
  go_wp2_with fail
  refine (HR.out _).mono ?_
  rintro e w2 ⟨rfl, hb2⟩
  have HB2 := Lib.hid hb2
  have hs2 := hb2.size
  clear hb2
  go_wp2_with fail
  refine (HS.out _).mono ?_
  rintro e w' ⟨rfl, rfl⟩
  go_wp2_with fail
  refine (HE.out _).mono ?_
  rintro e w3 ⟨_, h1⟩
  obtain ⟨v, rfl, l3, rfl, ht3, hl3, hm3, hbm3, hb3⟩ := h1 n rfl HN.out
  have hs3 := hbm3.lt
  have hbm13 : BM w3 w.heap.size l1 := (HBM1.out.below HB2.out hs1).below hb3 (by omega)
  have hrb1 := hbm13.rb (enc n).length hl1
  rw [HT1.out] at hrb1
  have hrb3 := hbm3.rb (enc n).length hl3
  rw [ht3] at hrb3
  have k1 := fun c => str_of_RB hrb1 c
  have k3 := fun c => str_of_RB hrb3 c
  have hee : (enc n == enc n) = true := by simp
  have HBM13 := Lib.hid hbm13
  have HBM3 := Lib.hid hbm3
  have HB3 := Lib.hid hb3
  have HT3 := Lib.hid ht3
  have HRB1 := Lib.hid hrb1
  clear h1 hb3 hbm3 ht3 hbm13 hrb1 hrb3
  go_wp2_with fail
  clear k1 k3
  refine (decode_at _ _ _ (w.heap.size + 1) 0 (enc n) w3 HRB1.out (by omega) hen0 hl1 (by omega)).mono ?_
  rintro e w4 ⟨h4, _, hb4⟩
  rw [HCH.out] at h4
  obtain rfl := h4 rfl
  have HB4 := Lib.hid hb4
  have hs4 := hb4.size
  clear hb4 h4
  have hnn : ((n : Int) != (n : Int)) = false := by simp
  have hll : (((enc n).length : Int) != ((enc n).length : Int)) = false := by simp
  have hm1' : l1.length ≤ 9223372036854775807 := by unfold maxLen at hm1; omega
  clear hm1
  go_wp2_with fail
  go_loopw [12] (fun i wr => ∃ j : Nat, j ≤ l1.length ∧ i = .int .i64 j ∧ (∃ l : List UInt8, l.length = l1.length ∧ BM wr w.heap.size l) ∧ But w4.heap.size w.heap.size w4 wr) (fun i _ => l1.length - (intOf i).toNat)
  case atStart => exact ⟨0, by omega, rfl, ⟨l1, rfl, HBM13.out.below HB4.out (by omega)⟩, But.refl _ _ _⟩
  case round =>
    obtain ⟨j, hj, rfl, ⟨l, hl, hbm⟩, hbut⟩ := hrel
    have HBM := Lib.hid hbm
    have HBUT := Lib.hid hbut
    by_cases hlt : j < l1.length
    · have hc : wr.cell? ⟨w.heap.size, j, none⟩ = some (bv (l.getD j 0)) := by rw [hbm.cell j (by omega)]; simp [List.getD, show j < l.length by omega]
      have hf := hbm.frozen j (by omega)
      have HL := Lib.hid hl
      clear hbm hbut hl
      go_wp2_with fail
      go_roundw
      case rel => exact ⟨j + 1, by omega, by go_num, ⟨l.set j 120, by simpa using HL.out, HBM.out.set j 120⟩, HBUT.out.setCell (.inl rfl) _⟩
      case measure => simp [intOf]; omega
    · obtain rfl : j = l1.length := by omega
      have hs5 := hbut.size
      clear hbm hbut hlt
      go_wp2_with fail
      refine (HE.out _).mono ?_
      rintro e w6 ⟨_, h1⟩
      obtain ⟨v, rfl, l6, rfl, ht6, hl6, hm6, hbm6, hb6⟩ := h1 n rfl HN.out
      have hbm36 : BM w6 w2.heap.size l3 := by
        have h := HBM3.out.below HB4.out hs3
        have h2 : BM wr w2.heap.size l3 := (HBUT.out.block _ (by omega) (by omega)).trans h
        exact h2.below hb6 (by omega)
      have hrb3 := hbm36.rb (enc n).length hl3
      rw [HT3.out] at hrb3
      have hrb6 := hbm6.rb (enc n).length hl6
      rw [ht6] at hrb6
      have k3 := fun c => str_of_RB hrb3 c
      have k6 := fun c => str_of_RB hrb6 c
      have hbel : Below w.heap.size w w6 := by
        have e1 := HB1.out.trans (HB2.out.mono (by omega))
        have e2 := e1.trans (HB3.out.mono (by omega))
        have e3 := e2.trans (HB4.out.mono (by omega))
        have e4 := e3.trans ((HBUT.out.mono (show w.heap.size ≤ w4.heap.size by omega)).toBelow (Nat.le_refl _))
        exact e4.trans (hb6.mono (by omega))
      have HBEL := Lib.hid hbel
      clear h1 hb6 hbm6 ht6 hrb3 hrb6 hbm36 hbel
      go_wp2_with fail
      go_ret
      exact ⟨rfl, HBEL.out⟩

set_option maxRecDepth 100000 in
theorem lifted (os : Os) (started : os.Started) (H : Type) (enc : TypeId × Value → H) :
    ReturnsInHanded {} Try.checked os 3 .any (Rows.utfEncodesSpec.pre6 enc Try.prog Try.f3 Rows.utfEncodesRow.domain false) (Rows.utfEncodesSpec.post enc Try.prog Try.f3 false true false false) := by
  refine returnsInHanded_of_change (C := Try.checked) own started (by kernel_rfl) Try.func3
    (ChangeSpec.witness6 (enc := enc) (C := Try.checked) false ⟨#[], #[.int .i32 0], []⟩ 8 (by kernel_rfl) (by kernel_rfl) (by kernel_rfl) (by kernel_rfl)) ?_
  intro W base args ds gs before hval0 hW hcnd _
  have hval : ∀ (j : Nat) t v, Try.f3.params[j]? = some t → args[j]? = some v → Value.okWide Try.prog W .any base t v := hval0
  have hW' := hW
  obtain ⟨p, q, hA0, hV, rfl, hfz, hnd⟩ := hW
  have hA : DataW.TrodAll enc Try.prog W 0 (fun _ => true) true Try.f3.params.toList args.toList ds p := hA0
  rw [Try.params3] at hA hval
  obtain ⟨v0, vs0, d0, ds0, p0, q0, hargs, rfl, rfl, h0, r0⟩ := trodAll_cons hA
  obtain ⟨rfl, rfl, rfl⟩ := trodAll_nil r0
  obtain rfl : args = #[v0] := by cases args; simp_all
  obtain ⟨rfl, rfl⟩ := trodVars_none hV
  obtain ⟨a0, rfl, rfl, rfl, w0⟩ := open_int Try.underlying21 (hval 0 21 v0 rfl rfl) h0
  clear hA0 hval0
  refine (walk a0 W w0).mono fun e W' ⟨he, bel⟩ => ?_
  subst he
  exact ⟨_, rfl, _, _, _, [], _, [], hW', trodAll_mk1 (shut_bool Try.underlying4 _), (trodAll_cons_mk (shut_int Try.underlying21 w0) trodAll_mk0), rfl, bel.frame _, fun h => by cases h⟩

theorem over : Rows.utfEncodesRow.holds Try.pinned (OpenSpec.ofChange Rows.utfEncodesSpec) :=
  OpenClaim.holds_of_wide 3 Try.f3 rfl rfl rfl rfl rfl rfl rfl ⟨rfl, rfl, rfl, rfl, rfl⟩ rfl rfl rfl rfl rfl (by kernel_rfl) Try.func3 (by kernel_rfl)
    (of_decide_eq_true (by kernel_rfl)) (by unfold Func.isWrapper; first | (rw [if_pos (by decide +kernel)]; kernel_rfl) | (rw [if_neg (by decide +kernel)]; exact ⟨rfl, rfl⟩))
    (fun os started H enc _ => lifted os started H enc)

theorem proved : Rows.UtfEncodesSaid := over
#print axioms proved
end Go.Proofs.Ytmdgopclcdmenaa.utfEncodes
