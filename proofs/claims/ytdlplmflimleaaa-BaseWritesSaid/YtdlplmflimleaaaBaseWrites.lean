/-
  Proved: 'BaseWrites' answers true at every integer and every row of bytes: the letters that package base writes are the reference's; of what is no alphabet it tells ErrArg. No condition beyond the given row's own.
-/
import Derived.Test.YtdlplmflimleaaaBaseF
import Derived.WalkKit
import Derived.ProofKit
import Derived.OpenShut
import Derived.ShutString
import Derived.ChangeOld
import Derived.Below
namespace Go.Proofs.Ytdlplmflimleaaa.baseWrites
open Go.ChangeShapes Go.WideShapes Go.ChangeAt Go.RowKit
open Go.ChangeMaps (open_string shut_string)
set_option linter.unusedVariables false
set_option linter.unusedSimpArgs false

theorem own : ownKnob Try.prog.godebug = none := by kernel_rfl
theorem laidOut : laidOutB Try.prog = true := by kernel_rfl

/-- What is known of a slice of integers that came in. -/
def IsRow (k : IntKind) (w : World) (a : Option Addr) (len cap : Nat) (zs : List Int) : Prop :=
  (a = none ∧ len = 0 ∧ cap = 0 ∧ zs = []) ∨
  ∃ x, a = some x ∧ len ≤ cap ∧ cap ≤ maxLen ∧ zs.length = cap ∧ (∀ i, i < zs.length → w.cell? (x.add i) = some (.int k (zs.getD i 0))) ∧ ∀ n ∈ zs, (Lit.int k n).wf = true

theorem walk (a0 : Int) (a1 : Option Addr) (len1 cap1 : Nat) (z1 : List Int) (w : World) (w0 : (Lit.int .i64 a0).wf = true) (w1 : IsRow .u8 w a1 len1 cap1 z1) :
    Calls Try.prog 7 #[.int .i64 a0, .slice a1 len1 cap1] w fun e w' => e = .returned (.bool true) ∧ Below w.heap.size w w' := by
  obtain ⟨hRB, hlc, hcm⟩ := RB.of_row w1
  have b0 := bounds_i64 w0
  clear w0 w1
  generalize hbs : ((z1.take len1).map fun z => UInt8.ofNat z.toNat) = bs at hRB
  clear hbs
  have hmax : len1 ≤ 9223372036854775807 := by unfold maxLen at hcm; omega
  by_cases hbig : 134217728 < len1
  · have hbd : decide (134217728 < len1) = true := by simpa using hbig
    go_enter Try.func7, Try.ntmps7
    go_wp2_with fail
    refine (beyond_any _ _ hmax).mono ?_
    rintro e w' ⟨rfl, rfl⟩
    go_wp2_with fail
    go_ret
    exact ⟨rfl, Below.refl _ _⟩
  · have hbd : decide (134217728 < len1) = false := by simpa using hbig
    go_enter Try.func7, Try.ntmps7
    go_wp2_with fail
    refine (beyond_any _ _ hmax).mono ?_
    rintro e w' ⟨rfl, rfl⟩
    go_wp2_with fail
    refine (roomy_any a1 len1 cap1 _ bs _ hRB (Nat.le_refl _) (by omega)).mono ?_
    rintro e w1 ⟨rfl, hblk1, hbel1⟩
    obtain ⟨hr1, cn, cn1⟩ := roomy_holds hblk1 hRB.1
    have HBL := Lib.hid hblk1
    have hs1 := hblk1.lt
    clear hblk1
    go_wp2_with fail
    refine (Write_any _ _ _ _ _ bs _ hr1 (by omega) (by omega)).mono ?_
    rintro e w2 ⟨s, er, rfl, hbel2, hok, hno⟩
    have HOK := Lib.hid hok
    have HNO := Lib.hid hno
    have cn2 := keepc hbel2 hs1 cn
    have cn12 := keepc hbel2 hs1 cn1
    have hr2 := (hr1.mono (by omega)).below hbel2
    have hb2 := keepb hbel1 hbel2
    have hRB2 := hRB.below hb2
    clear hok hno
    go_wp2_with fail
    refine (left_yes _ _ cap1 _ _ _ _ _ bs _ hr2 cn2 cn12 hRB2 (by omega)).mono ?_
    rintro e w' ⟨rfl, rfl⟩
    go_wp2_with fail
    refine (hex_any _ _ _ _ bs _ hRB2 hb2.size (by omega)).mono ?_
    rintro e w3 ⟨rfl, hbel3⟩
    have hb3 := keepb hb2 hbel3
    have hRB3 := hRB.below hb3
    go_wp2_with fail
    refine (rwrite_k 1 4 _ _ _ _ bs _ hRB3 hb3.size rfl (.inl rfl) (by omega)).mono ?_
    rintro e w4 ⟨rfl, hbel4⟩
    have hb4 := keepb hb3 hbel4
    have hRB4 := hRB.below hb4
    go_wp2_with fail
    refine (web_any _ _ _ _ bs _ hRB4 hb4.size (by omega)).mono ?_
    rintro e w5 ⟨rfl, hbel5⟩
    have hb5 := keepb hb4 hbel5
    have hRB5 := hRB.below hb5
    go_wp2_with fail
    refine (rwrite_k 3 6 _ _ _ _ bs _ hRB5 hb5.size rfl (.inr (.inr rfl)) (by omega)).mono ?_
    rintro e w6 ⟨rfl, hbel6⟩
    have hb6 := keepb hb5 hbel6
    have hRB6 := hRB.below hb6
    clear hbel2 hbel3 hbel4 hbel5 hbel6 hb2 hb3 hb4 hb5 hbel1 cn cn1 cn2 cn12 hr1 hr2 hRB2 hRB3 hRB4 hRB5 HBL hs1
    by_cases hr : 0 ≤ a0 ∧ a0 ≤ 255
    · obtain ⟨r1, r2⟩ := hr
      have hm : a0 % 256 = a0 := by omega
      have HM := Lib.hid hm
      by_cases hz : Bt a0 = 0
      · obtain ⟨rfl, rfl⟩ := HNO.out (by rw [hm]; exact hz)
        have K : Hid (Bt a0 = 0) := hz
        clear hm hz HOK HNO
        go_wp2_with fail
        refine (rbits_k _ _ _ K).mono ?_
        rintro e w' ⟨rfl, rfl⟩
        go_wp2_with fail
        refine (errno_yes _ _).mono ?_
        rintro e w' ⟨rfl, rfl⟩
        go_wp2_with fail
        go_ret
        exact ⟨rfl, hb6⟩
      · obtain ⟨k, hk, h0⟩ : ∃ k : Nat, Bt a0 = k ∧ (k = 4 ∨ k = 5 ∨ k = 6) := by
          rcases Bt_cases a0 with ⟨_, h⟩ | ⟨_, h⟩ | ⟨_, h⟩ | ⟨_, _, _, h, _⟩
          · exact ⟨4, h, .inl rfl⟩
          · exact ⟨5, h, .inr (.inl rfl)⟩
          · exact ⟨6, h, .inr (.inr rfl)⟩
          · exact absurd h hz
        obtain ⟨rfl, rfl⟩ := HOK.out k (by rw [hm]; exact hk) h0
        have K : Hid (Bt a0 = (k : Int)) := hk
        have H0 := Lib.hid h0
        have hkz : ((k : Int) == 0) = false := by simp; omega
        rw [hm] at *
        clear hm hz HOK HNO hk h0
        go_wp2_with fail
        refine (rbits_k _ _ _ K).mono ?_
        rintro e w' ⟨rfl, rfl⟩
        go_wp2_with fail
        refine (rwrite_k a0 k _ _ _ _ bs _ hRB6 hb6.size K H0.out (by omega)).mono ?_
        rintro e w7 ⟨rfl, hbel7⟩
        go_wp2_with fail
        go_ret
        exact ⟨rfl, keepb hb6 hbel7⟩
    · have hne : (a0 != a0 % 256) = true := by rw [bne_iff_ne]; omega
      clear hr HOK HNO
      go_wp2_with fail
      go_ret
      exact ⟨rfl, hb6⟩

set_option maxRecDepth 100000 in
theorem lifted (os : Os) (started : os.Started) (H : Type) (enc : TypeId × Value → H) :
    ReturnsInHanded {} Try.checked os 7 .any (Rows.baseWritesSpec.pre6 enc Try.prog Try.f7 Rows.baseWritesRow.domain false) (Rows.baseWritesSpec.post enc Try.prog Try.f7 false true false false) := by
  refine returnsInHanded_of_change (C := Try.checked) own started (by kernel_rfl) Try.func7
    (ChangeSpec.witness6 (enc := enc) (C := Try.checked) false ⟨#[], #[.int .i64 0, .slice none 0 0], []⟩ 8 (by kernel_rfl) (by kernel_rfl) (by kernel_rfl) (by kernel_rfl)) ?_
  intro W base args ds gs before hval0 hW hcnd _
  have hval : ∀ (j : Nat) t v, Try.f7.params[j]? = some t → args[j]? = some v → Value.okWide Try.prog W .any base t v := hval0
  have hW' := hW
  obtain ⟨p, q, hA0, hV, rfl, hfz, hnd⟩ := hW
  have hA : DataW.TrodAll enc Try.prog W 0 (fun _ => true) true Try.f7.params.toList args.toList ds p := hA0
  rw [Try.params7] at hA hval
  obtain ⟨v0, vs0, d0, ds0, p0, q0, hargs, rfl, rfl, h0, r0⟩ := trodAll_cons hA
  obtain ⟨v1, vs1, d1, ds1, p1, q1, rfl, rfl, rfl, h1, r1⟩ := trodAll_cons r0
  obtain ⟨rfl, rfl, rfl⟩ := trodAll_nil r1
  obtain rfl : args = #[v0, v1] := by cases args; simp_all
  obtain ⟨rfl, rfl⟩ := trodVars_none hV
  obtain ⟨a0, rfl, rfl, rfl, w0⟩ := open_int Try.underlying3 (hval 0 3 v0 rfl rfl) h0
  obtain ⟨a1, len1, cap1, rfl⟩ := okWide_slice Try.underlying34 (hval 1 34 v1 rfl rfl)
  have k1 := h1
  have lt1 : ∀ x ∈ p1, x.block < W.heap.size := by obtain ⟨m, hm⟩ := k1; exact DataW.trod_lt m _ _ _ hm
  obtain ⟨z1, w1⟩ : ∃ zs, IsRow .u8 W a1 len1 cap1 zs := by
    obtain ⟨fuel, hf⟩ := h1
    rcases open_ints Try.underlying34 Try.underlying5 (by kernel_rfl) hf with ⟨hcs, _⟩ | ⟨x, l, c, zs, hcs, _, hl, hm, hz, _, hcell, hwz⟩
    · simp [Value.cells] at hcs
      obtain ⟨rfl, rfl, rfl⟩ := hcs
      exact ⟨[], .inl ⟨rfl, rfl, rfl, rfl⟩⟩
    · simp [Value.cells] at hcs
      obtain ⟨rfl, rfl, rfl⟩ := hcs
      exact ⟨zs, .inr ⟨_, rfl, hl, hm, by simpa using hz, hcell, hwz⟩⟩
  clear hA0 hval0
  refine (walk a0 a1 len1 cap1 z1 W w0 w1).mono fun e W' ⟨he, bel⟩ => ?_
  subst he
  exact ⟨_, rfl, _, _, _, [], _, [], hW', trodAll_mk1 (shut_bool Try.underlying4 _), (trodAll_cons_mk (shut_int Try.underlying3 w0) (trodAll_cons_mk (Below.trod laidOut (by kernel_rfl) (of_decide_eq_true (by kernel_rfl)) k1 bel lt1) trodAll_mk0)), rfl, bel.frame _, fun h => by cases h⟩

theorem over : Rows.baseWritesRow.holds Try.pinned (OpenSpec.ofChange Rows.baseWritesSpec) :=
  OpenClaim.holds_of_wide 7 Try.f7 rfl rfl rfl rfl rfl rfl rfl ⟨rfl, rfl, rfl, rfl, rfl⟩ rfl rfl rfl rfl rfl (by kernel_rfl) Try.func7 (by kernel_rfl)
    (of_decide_eq_true (by kernel_rfl)) (by unfold Func.isWrapper; first | (rw [if_pos (by decide +kernel)]; kernel_rfl) | (rw [if_neg (by decide +kernel)]; exact ⟨rfl, rfl⟩))
    (fun os started H enc _ => lifted os started H enc)

theorem proved : Rows.BaseWritesSaid := over
#print axioms proved
end Go.Proofs.Ytdlplmflimleaaa.baseWrites
