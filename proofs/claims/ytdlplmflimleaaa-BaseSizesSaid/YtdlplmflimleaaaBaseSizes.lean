/-
  Proved: 'BaseSizes' answers true at every pair of integers (the two sizes that package base tells are the reference's). No condition beyond the given row's own.
  The frame of the row was written by the kit's skeleton writer; the walk and its lemmas are our own.
-/
import Derived.Test.YtdlplmflimleaaaBaseA
import Derived.WalkKit
import Derived.ProofKit
import Derived.OpenShut
import Derived.ShutString
namespace Go.Proofs.Ytdlplmflimleaaa.baseSizes
open Go.ChangeShapes Go.WideShapes Go.ChangeAt Go.RowKit
open Go.ChangeMaps (open_string shut_string)
set_option linter.unusedVariables false

theorem own : ownKnob Try.prog.godebug = none := by kernel_rfl

set_option maxRecDepth 100000 in
set_option maxHeartbeats 1000000 in
theorem walk (a0 : Int) (a1 : Int) (w0 : (Lit.int .i64 a0).wf = true) (w1 : (Lit.int .i64 a1).wf = true) (w : World) :
    Calls Try.prog 3 #[.int .i64 a0, .int .i64 a1] w fun e w' => e = .returned (.bool true) ∧ Grown w w' := by
  have b1 : -9223372036854775808 ≤ a1 ∧ a1 ≤ 9223372036854775807 := bounds_i64 w1
  obtain ⟨b1, b2⟩ := b1
  clear w0 w1
  by_cases hr : 0 ≤ a0 ∧ a0 ≤ 255
  · obtain ⟨r1, r2⟩ := hr
    have hB := Bt_cases a0
    obtain ⟨k, hk⟩ : ∃ k, k = Bt a0 := ⟨_, rfl⟩
    rw [← hk] at hB
    have K : Hid (Bt a0 = k) := hk.symm
    have hk' : k = 0 ∨ k = 4 ∨ k = 5 ∨ k = 6 := by omega
    clear hB hk
    by_cases hz : k = 0
    · subst hz
      clear hk'
      by_cases hbig : a1 ≤ 1125899906842624
      · go_enter Try.func3, Try.ntmps3
        go_wp2_with (first
              | (go_at_call 11; refine (size_no _ _ _ _ K (by omega)).mono ?_; rintro e w' ⟨rfl, rfl⟩)
              | (go_at_call 12; refine (rbits_k _ _ _ K).mono ?_; rintro e w' ⟨rfl, rfl⟩)
              | (go_at_call 13; refine (errno_yes _ _).mono ?_; rintro e w' ⟨rfl, rfl⟩)
              | (go_at_call 14; refine (rsize_k _ _ _ _ K (by omega) (by omega) (by omega) (by omega)).mono ?_; rintro e w' ⟨rfl, rfl⟩)
              | (go_at_call 15; refine (room_no _ _ _ _ K (by omega)).mono ?_; rintro e w' ⟨rfl, rfl⟩)
              | (go_at_call 16; refine (rroom_no _ _ _ _ K (by omega)).mono ?_; rintro e w' ⟨rfl, rfl⟩))
        go_ret
        exact ⟨rfl, Grown.refl _⟩
      · go_enter Try.func3, Try.ntmps3
        go_wp2_with (first
              | (go_at_call 11; refine (size_no _ _ _ _ K (by omega)).mono ?_; rintro e w' ⟨rfl, rfl⟩)
              | (go_at_call 12; refine (rbits_k _ _ _ K).mono ?_; rintro e w' ⟨rfl, rfl⟩)
              | (go_at_call 13; refine (errno_yes _ _).mono ?_; rintro e w' ⟨rfl, rfl⟩)
              | (go_at_call 14; refine (rsize_k _ _ _ _ K (by omega) (by omega) (by omega) (by omega)).mono ?_; rintro e w' ⟨rfl, rfl⟩)
              | (go_at_call 15; refine (room_no _ _ _ _ K (by omega)).mono ?_; rintro e w' ⟨rfl, rfl⟩)
              | (go_at_call 16; refine (rroom_no _ _ _ _ K (by omega)).mono ?_; rintro e w' ⟨rfl, rfl⟩))
        go_ret
        exact ⟨rfl, Grown.refl _⟩
    · have g1 : (k == 0) = false := by simpa using hz
      have k4 : 4 ≤ k := by omega
      have k6 : k ≤ 6 := by omega
      have hk3 : Hid (k = 4 ∨ k = 5 ∨ k = 6) := by show _ ∨ _ ∨ _; omega
      clear hk' hz
      by_cases hneg : a1 < 0
      · go_enter Try.func3, Try.ntmps3
        go_wp2_with (first
              | (go_at_call 11; refine (size_no _ _ _ _ K (by omega)).mono ?_; rintro e w' ⟨rfl, rfl⟩)
              | (go_at_call 12; refine (rbits_k _ _ _ K).mono ?_; rintro e w' ⟨rfl, rfl⟩)
              | (go_at_call 13; refine (errno_yes _ _).mono ?_; rintro e w' ⟨rfl, rfl⟩)
              | (go_at_call 14; refine (rsize_k _ _ _ _ K (by omega) (by omega) (by omega) (by omega)).mono ?_; rintro e w' ⟨rfl, rfl⟩)
              | (go_at_call 15; refine (room_no _ _ _ _ K (by omega)).mono ?_; rintro e w' ⟨rfl, rfl⟩)
              | (go_at_call 16; refine (rroom_no _ _ _ _ K (by omega)).mono ?_; rintro e w' ⟨rfl, rfl⟩))
        go_ret
        exact ⟨rfl, Grown.refl _⟩
      · have hpos : 0 ≤ a1 := by omega
        clear hneg
        by_cases R : a1 % 8 * k % 8 < k
        · have R1 := Lib.hid R
          have hq : 0 ≤ RmR k a1 := by
            unfold RmR; rw [if_pos R]
            rcases hk3.out with rfl | rfl | rfl <;> omega
          have e1 : a1 / 8 * k + a1 % 8 * k / 8 = RmR k a1 := by unfold RmR; rw [if_pos R]
          clear R
          by_cases hM : a1 ≤ 16777216
          · go_enter Try.func3, Try.ntmps3
            go_wp2_with (first
                  | (go_at_call 11; refine (size_ok _ _ _ _ K (by omega) (by omega) (by omega) (by omega)).mono ?_; rintro e w' ⟨rfl, rfl⟩)
                  | (go_at_call 12; refine (rbits_k _ _ _ K).mono ?_; rintro e w' ⟨rfl, rfl⟩)
                  | (go_at_call 13; refine (errno_yes _ _).mono ?_; rintro e w' ⟨rfl, rfl⟩)
                  | (go_at_call 14; refine (rsize_k _ _ _ _ K (by omega) (by omega) (by omega) (by omega)).mono ?_; rintro e w' ⟨rfl, rfl⟩)
                  | (go_at_call 15; refine (room_yes _ _ _ _ K hk3.out (by omega) (by omega) R1.out).mono ?_; rintro e w' ⟨rfl, rfl⟩)
                  | (go_at_call 16; refine (rroom_k _ _ _ _ K hk3.out (by omega) (by omega)).mono ?_; rintro e w' ⟨rfl, rfl⟩))
            go_ret
            exact ⟨rfl, Grown.refl _⟩
          · by_cases hbig : a1 ≤ 1125899906842624
            · go_enter Try.func3, Try.ntmps3
              go_wp2_with (first
                    | (go_at_call 11; refine (size_no _ _ _ _ K (by omega)).mono ?_; rintro e w' ⟨rfl, rfl⟩)
                    | (go_at_call 12; refine (rbits_k _ _ _ K).mono ?_; rintro e w' ⟨rfl, rfl⟩)
                    | (go_at_call 13; refine (errno_yes _ _).mono ?_; rintro e w' ⟨rfl, rfl⟩)
                    | (go_at_call 14; refine (rsize_k _ _ _ _ K (by omega) (by omega) (by omega) (by omega)).mono ?_; rintro e w' ⟨rfl, rfl⟩)
                    | (go_at_call 15; refine (room_yes _ _ _ _ K hk3.out (by omega) (by omega) R1.out).mono ?_; rintro e w' ⟨rfl, rfl⟩)
                    | (go_at_call 16; refine (rroom_k _ _ _ _ K hk3.out (by omega) (by omega)).mono ?_; rintro e w' ⟨rfl, rfl⟩))
              go_ret
              exact ⟨rfl, Grown.refl _⟩
            · go_enter Try.func3, Try.ntmps3
              go_wp2_with (first
                    | (go_at_call 11; refine (size_no _ _ _ _ K (by omega)).mono ?_; rintro e w' ⟨rfl, rfl⟩)
                    | (go_at_call 12; refine (rbits_k _ _ _ K).mono ?_; rintro e w' ⟨rfl, rfl⟩)
                    | (go_at_call 13; refine (errno_yes _ _).mono ?_; rintro e w' ⟨rfl, rfl⟩)
                    | (go_at_call 14; refine (rsize_k _ _ _ _ K (by omega) (by omega) (by omega) (by omega)).mono ?_; rintro e w' ⟨rfl, rfl⟩)
                    | (go_at_call 15; refine (room_yes _ _ _ _ K hk3.out (by omega) (by omega) R1.out).mono ?_; rintro e w' ⟨rfl, rfl⟩)
                    | (go_at_call 16; refine (rroom_k _ _ _ _ K (by omega) (by omega) (by omega)).mono ?_; rintro e w' ⟨rfl, rfl⟩))
              go_ret
              exact ⟨rfl, Grown.refl _⟩
        · have R1 := Lib.hid R
          have hq : RmR k a1 < 0 := by unfold RmR; rw [if_neg R]; decide
          clear R
          by_cases hM : a1 ≤ 16777216
          · go_enter Try.func3, Try.ntmps3
            go_wp2_with (first
                  | (go_at_call 11; refine (size_ok _ _ _ _ K (by omega) (by omega) (by omega) (by omega)).mono ?_; rintro e w' ⟨rfl, rfl⟩)
                  | (go_at_call 12; refine (rbits_k _ _ _ K).mono ?_; rintro e w' ⟨rfl, rfl⟩)
                  | (go_at_call 13; refine (errno_yes _ _).mono ?_; rintro e w' ⟨rfl, rfl⟩)
                  | (go_at_call 14; refine (rsize_k _ _ _ _ K (by omega) (by omega) (by omega) (by omega)).mono ?_; rintro e w' ⟨rfl, rfl⟩)
                  | (go_at_call 15; refine (room_off _ _ _ _ K hk3.out (by omega) (by omega) (by have := R1.out; omega)).mono ?_; rintro e w' ⟨rfl, rfl⟩)
                  | (go_at_call 16; refine (rroom_k _ _ _ _ K hk3.out (by omega) (by omega)).mono ?_; rintro e w' ⟨rfl, rfl⟩))
            go_ret
            exact ⟨rfl, Grown.refl _⟩
          · by_cases hbig : a1 ≤ 1125899906842624
            · go_enter Try.func3, Try.ntmps3
              go_wp2_with (first
                    | (go_at_call 11; refine (size_no _ _ _ _ K (by omega)).mono ?_; rintro e w' ⟨rfl, rfl⟩)
                    | (go_at_call 12; refine (rbits_k _ _ _ K).mono ?_; rintro e w' ⟨rfl, rfl⟩)
                    | (go_at_call 13; refine (errno_yes _ _).mono ?_; rintro e w' ⟨rfl, rfl⟩)
                    | (go_at_call 14; refine (rsize_k _ _ _ _ K (by omega) (by omega) (by omega) (by omega)).mono ?_; rintro e w' ⟨rfl, rfl⟩)
                    | (go_at_call 15; refine (room_off _ _ _ _ K hk3.out (by omega) (by omega) (by have := R1.out; omega)).mono ?_; rintro e w' ⟨rfl, rfl⟩)
                    | (go_at_call 16; refine (rroom_k _ _ _ _ K hk3.out (by omega) (by omega)).mono ?_; rintro e w' ⟨rfl, rfl⟩))
              go_ret
              exact ⟨rfl, Grown.refl _⟩
            · go_enter Try.func3, Try.ntmps3
              go_wp2_with (first
                    | (go_at_call 11; refine (size_no _ _ _ _ K (by omega)).mono ?_; rintro e w' ⟨rfl, rfl⟩)
                    | (go_at_call 12; refine (rbits_k _ _ _ K).mono ?_; rintro e w' ⟨rfl, rfl⟩)
                    | (go_at_call 13; refine (errno_yes _ _).mono ?_; rintro e w' ⟨rfl, rfl⟩)
                    | (go_at_call 14; refine (rsize_k _ _ _ _ K (by omega) (by omega) (by omega) (by omega)).mono ?_; rintro e w' ⟨rfl, rfl⟩)
                    | (go_at_call 15; refine (room_off _ _ _ _ K hk3.out (by omega) (by omega) (by have := R1.out; omega)).mono ?_; rintro e w' ⟨rfl, rfl⟩)
                    | (go_at_call 16; refine (rroom_k _ _ _ _ K (by omega) (by omega) (by omega)).mono ?_; rintro e w' ⟨rfl, rfl⟩))
              go_ret
              exact ⟨rfl, Grown.refl _⟩
  · have hne : (a0 != a0 % 256) = true := by
      rw [bne_iff_ne]; omega
    clear hr
    go_enter Try.func3, Try.ntmps3
    go_wp2
    go_ret
    exact ⟨rfl, Grown.refl _⟩

set_option maxRecDepth 100000 in
theorem lifted (os : Os) (started : os.Started) (H : Type) (enc : TypeId × Value → H) :
    ReturnsInHanded {} Try.checked os 3 .any (Rows.baseSizesSpec.pre6 enc Try.prog Try.f3 Rows.baseSizesRow.domain false) (Rows.baseSizesSpec.post enc Try.prog Try.f3 false true false false) := by
  refine returnsInHanded_of_change (C := Try.checked) own started (by kernel_rfl) Try.func3
    (ChangeSpec.witness6 (enc := enc) (C := Try.checked) false ⟨#[], #[.int .i64 0, .int .i64 0], []⟩ 8 (by kernel_rfl) (by kernel_rfl) (by kernel_rfl) (by kernel_rfl)) ?_
  intro W base args ds gs before hval0 hW hcnd _
  have hval : ∀ (j : Nat) t v, Try.f3.params[j]? = some t → args[j]? = some v → Value.okWide Try.prog W .any base t v := hval0
  have hW' := hW
  obtain ⟨p, q, hA0, hV, rfl, hfz, hnd⟩ := hW
  have hA : DataW.TrodAll enc Try.prog W 0 (fun _ => true) true Try.f3.params.toList args.toList ds p := hA0
  rw [Try.params3] at hA hval
  obtain ⟨v0, vs0, d0, ds0, p0, q0, hargs, rfl, rfl, h0, r0⟩ := trodAll_cons hA
  obtain ⟨v1, vs1, d1, ds1, p1, q1, rfl, rfl, rfl, h1, r1⟩ := trodAll_cons r0
  obtain ⟨rfl, rfl, rfl⟩ := trodAll_nil r1
  obtain rfl : args = #[v0, v1] := by cases args; simp_all
  obtain ⟨rfl, rfl⟩ := trodVars_none hV
  obtain ⟨a0, rfl, rfl, rfl, w0⟩ := open_int Try.underlying3 (hval 0 3 v0 rfl rfl) h0
  obtain ⟨a1, rfl, rfl, rfl, w1⟩ := open_int Try.underlying3 (hval 1 3 v1 rfl rfl) h1
  clear hA0 hval0
  simp only [List.append_nil] at hW'
  refine (walk a0 a1 w0 w1 W).mono fun e W' ⟨he, hg⟩ => ?_
  subst he
  exact ⟨_, rfl, post_of_same (pa := []) (pv := []) hW' (fun _ _ _ => (trodAll_cons_mk (shut_bool Try.underlying4 _) trodAll_mk0)) (fun sp _ => (trodAll_cons_mk (shut_int Try.underlying3 w0) (trodAll_cons_mk (shut_int Try.underlying3 w1) trodAll_mk0))) (fun _ _ => rfl) rfl
    (hg.frame _) hg.2.1 (ok_one (by kernel_rfl) rfl (okWide_bool_mk Try.underlying4 _))⟩

theorem over : Rows.baseSizesRow.holds Try.pinned (OpenSpec.ofChange Rows.baseSizesSpec) :=
  OpenClaim.holds_of_wide 3 Try.f3 rfl rfl rfl rfl rfl rfl rfl ⟨rfl, rfl, rfl, rfl, rfl⟩ rfl rfl rfl rfl rfl (by kernel_rfl) Try.func3 (by kernel_rfl)
    (of_decide_eq_true (by kernel_rfl)) (by unfold Func.isWrapper; first | (rw [if_pos (by decide +kernel)]; kernel_rfl) | (rw [if_neg (by decide +kernel)]; exact ⟨rfl, rfl⟩))
    (fun os started H enc _ => lifted os started H enc)

theorem proved : Rows.BaseSizesSaid :=
  over
#print axioms proved
end Go.Proofs.Ytdlplmflimleaaa.baseSizes
