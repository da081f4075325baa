/-
  Proved: 'UtfDecodes' answers true at every row of bytes and every place: the character at a place is the reference's, or why there is none, of which dynamic type; what came in is not written. No condition beyond the given row's own.
-/
import Derived.Test.YtmdgopclcdmenaaRows
import Derived.Test.YtmdgopclcdmenaaUtfC
import Derived.Test.YtmdgopclcdmenaaUtfD
import Derived.Test.YtmdgopclcdmenaaUtfG
import Derived.WalkKit
import Derived.ProofKit
import Derived.OpenShut
import Derived.ShutString
import Derived.ChangeOld
import Derived.Below
namespace Go.Proofs.Ytmdgopclcdmenaa.utfDecodes
open Go.ChangeShapes Go.WideShapes Go.ChangeAt Go.RowKit
open Go.ChangeMaps (open_string shut_string)
set_option linter.unusedVariables false
set_option linter.unusedSimpArgs false

theorem own : ownKnob Try.prog.godebug = none := by kernel_rfl
theorem laidOut : laidOutB Try.prog = true := by kernel_rfl

/-- What is known of a slice of integers that came in. -/
def IsRow (k : IntKind) (w : World) (a : Option Addr) (len cap : Nat) (zs : List Int) : Prop :=
  (a = none ∧ len = 0 ∧ cap = 0 ∧ zs = []) ∨
  ∃ x, a = some x ∧ len ≤ cap ∧ cap ≤ maxLen ∧ zs.length = cap ∧ (∀ i, i < zs.length → w.cell? (x.add i) = some (.int k (zs.getD i 0))) ∧ ∀ n ∈ zs, (Lit.int k n).wf = true

set_option maxRecDepth 100000 in
set_option maxHeartbeats 4000000 in
theorem walk (a0 : Option Addr) (len0 cap0 : Nat) (z0 : List Int) (a1 : Int) (w : World) (w0 : IsRow .u8 w a0 len0 cap0 z0) (w1 : (Lit.int .i64 a1).wf = true) :
    Calls Try.prog 6 #[.slice a0 len0 cap0, .int .i64 a1] w fun e w' => e = .returned (.bool true) ∧ Below w.heap.size w w' := by
  obtain ⟨hRB, hlc, hcm⟩ := RB.of_row w0
  have b1 := bounds_i64 w1
  clear w0 w1
  generalize hbs : ((z0.take len0).map fun z => UInt8.ofNat z.toNat) = bs at hRB
  clear hbs
  have hmax : len0 ≤ 9223372036854775807 := by unfold maxLen at hcm; omega
  have hcmax : cap0 ≤ 9223372036854775807 := by unfold maxLen at hcm; omega
  clear hcm
  have HR := Lib.hid hRB
  have hbl := hRB.1
  clear hRB
  by_cases hbig : 2147483647 < len0
  · have hbd : decide (2147483647 < len0) = true := by simpa using hbig
    have HB := Lib.hid (fun W => beyond_any len0 W hmax)
    rw [hbd] at HB
    clear hbl hbd hbig
    go_enter Try.func6, Try.ntmps6
    go_wp2_with fail
    refine (HB.out _).mono ?_
    rintro e w' ⟨rfl, rfl⟩
    go_wp2_with fail
    go_ret
    exact ⟨rfl, Below.refl _ _⟩
  have hbd : decide (2147483647 < len0) = false := by simpa using hbig
  have HB := Lib.hid (fun W => beyond_any len0 W hmax)
  rw [hbd] at HB
  have hn : len0 ≤ 2147483647 := by omega
  clear hbig hbd
  by_cases hat : a1 < 0 ∨ (len0 : Int) ≤ a1
  · have HD := Lib.hid (fun A c W => decode_no A len0 c a1 W hat hmax)
    have HBL := Lib.hid hbl
    clear hbl
    go_enter Try.func6, Try.ntmps6
    go_wp2_with fail
    refine (HB.out _).mono ?_
    rintro e w' ⟨rfl, rfl⟩
    go_wp2_with fail
    refine (roomy_any a0 len0 cap0 _ bs w HR.out (Nat.le_refl _) (by omega)).mono ?_
    rintro e w2 ⟨rfl, hroom, hb2⟩
    have HROOM := Lib.hid hroom
    have HB2 := Lib.hid hb2
    have hs2 := hb2.size
    clear hroom hb2
    go_wp2_with fail
    refine (HD.out _ _ _).mono ?_
    rintro e w' ⟨rfl, rfl⟩
    go_wp2_with fail
    refine (left_yes w.heap.size len0 cap0 w.heap.size a0 bs w2 HROOM.out (HR.out.below HB2.out) hs2 (by omega)).mono ?_
    rintro e w3 ⟨rfl, hb3⟩
    have hbel := HB2.out.trans (hb3.mono hs2)
    have HBE := Lib.hid hbel
    clear hb3 hbel
    by_cases h0 : a1 < 0
    · clear hat
      go_wp2_with fail
      refine (errno_yes _ _).mono ?_
      rintro e w' ⟨rfl, rfl⟩
      go_wp2_with fail
      go_ret
      exact ⟨rfl, HBE.out⟩
    · have h1 := hat.resolve_left h0
      clear hat
      go_wp2_with fail
      refine (errno_yes _ _).mono ?_
      rintro e w' ⟨rfl, rfl⟩
      go_wp2_with fail
      go_ret
      exact ⟨rfl, HBE.out⟩
  obtain ⟨i, rfl⟩ : ∃ i : Nat, a1 = i := ⟨a1.toNat, by omega⟩
  have hi : i < len0 := by omega
  have hil : i < bs.length := by omega
  have hsl : bs.length ≤ 2147483647 := by omega
  have HBL := Lib.hid hbl
  have HAT := Lib.hid (fun W => rat_any bs i W hil (by omega))
  clear hat hbl hil hsl
  go_enter Try.func6, Try.ntmps6
  go_wp2_with fail
  refine (HB.out _).mono ?_
  rintro e w' ⟨rfl, rfl⟩
  go_wp2_with fail
  refine (roomy_any a0 len0 cap0 _ bs w HR.out (Nat.le_refl _) (by omega)).mono ?_
  rintro e w2 ⟨rfl, hroom, hb2⟩
  have HROOM := Lib.hid hroom
  have HB2 := Lib.hid hb2
  have hs2 := hb2.size
  have hlt2 := Blk.lt hroom
  clear hroom hb2
  go_wp2_with fail
  refine (decode_at _ _ _ _ i bs w2 (HROOM.out.holds HBL.out).1 hlt2 hi (by omega) (by omega)).mono ?_
  rintro e w3 ⟨hd1, hd2, hb3⟩
  have HROOM3 : Hid (RoomB w3 w.heap.size bs) := Blk.below HROOM.out hb3 hlt2
  have HB3 := Lib.hid (HB2.out.trans (hb3.mono hs2))
  have hs3 := HB3.out.size
  clear hb3
  have HLEFT := Lib.hid (left_yes w.heap.size len0 cap0 w.heap.size a0 bs w3 HROOM3.out (HR.out.below HB3.out) hs3 (by omega))
  by_cases he : (chAt bs i).e = 0
  · obtain rfl := hd1 he
    have HCH : Hid (chAt bs i = ⟨(chAt bs i).r, (chAt bs i).n, 0, 0⟩) := by
      rcases chAt_spec bs i with ⟨h1, _, _, h4, _⟩ | ⟨h1, _⟩ | ⟨h1, _⟩
      · show chAt bs i = _
        generalize chAt bs i = c at *
        obtain ⟨r, n, e, p⟩ := c
        simp only at h1 h4
        subst h1 h4
        rfl
      · omega
      · omega
    rw [at_ok HCH.out] at HAT
    have hrr : (((chAt bs i).r : Int) == ((chAt bs i).r : Int)) = true := by simp
    have hnn : (((chAt bs i).n : Int) == ((chAt bs i).n : Int)) = true := by simp
    clear hd1 hd2 he
    generalize (chAt bs i).r = r at *
    generalize (chAt bs i).n = n at *
    go_wp2_with fail
    refine HLEFT.out.mono ?_
    rintro e w4 ⟨rfl, hb4⟩
    have hks := str_of_RB (HR.out.below (HB3.out.trans (hb4.mono hs3))) cap0
    have HBE := Lib.hid (HB3.out.trans (hb4.mono hs3))
    clear hb4
    go_wp2_with fail
    refine (HAT.out _).mono ?_
    rintro e w' ⟨rfl, rfl⟩
    go_wp2_with fail
    go_ret
    exact ⟨rfl, HBE.out⟩
  · obtain rfl := hd2 he
    have HCH : Hid (chAt bs i = ⟨0, 0, (chAt bs i).e, (chAt bs i).p⟩) := by
      rcases chAt_spec bs i with ⟨h1, _⟩ | ⟨_, h2, h3, _⟩ | ⟨_, h2, h3, _⟩
      · omega
      all_goals
        show chAt bs i = _
        generalize chAt bs i = c at *
        obtain ⟨r, n, e, p⟩ := c
        simp only at h2 h3
        subst h2 h3
        rfl
    rw [at_bad HCH.out] at HAT
    have hne : (((chAt bs i).e : Int) != 0) = true := by rw [bne_iff_ne]; omega
    clear hd1 hd2 he
    generalize (chAt bs i).e = x at *
    generalize (chAt bs i).p = p at *
    go_wp2_with fail
    refine HLEFT.out.mono ?_
    rintro e w4 ⟨rfl, hb4⟩
    have hks := str_of_RB (HR.out.below (HB3.out.trans (hb4.mono hs3))) cap0
    have HBE := Lib.hid (HB3.out.trans (hb4.mono hs3))
    have hs4 := HBE.out.size
    clear hb4
    go_wp2_with fail
    refine (HAT.out _).mono ?_
    rintro e w' ⟨rfl, rfl⟩
    go_wp2_with fail
    refine (spot_yes _ _ _).mono ?_
    rintro e w5 ⟨rfl, hb5⟩
    go_wp2_with fail
    go_ret
    exact ⟨rfl, HBE.out.trans (hb5.mono hs4)⟩

set_option maxRecDepth 100000 in
theorem lifted (os : Os) (started : os.Started) (H : Type) (enc : TypeId × Value → H) :
    ReturnsInHanded {} Try.checked os 6 .any (Rows.utfDecodesSpec.pre6 enc Try.prog Try.f6 Rows.utfDecodesRow.domain false) (Rows.utfDecodesSpec.post enc Try.prog Try.f6 false true false false) := by
  refine returnsInHanded_of_change (C := Try.checked) own started (by kernel_rfl) Try.func6
    (ChangeSpec.witness6 (enc := enc) (C := Try.checked) false ⟨#[], #[.slice none 0 0, .int .i64 0], []⟩ 8 (by kernel_rfl) (by kernel_rfl) (by kernel_rfl) (by kernel_rfl)) ?_
  intro W base args ds gs before hval0 hW hcnd _
  have hval : ∀ (j : Nat) t v, Try.f6.params[j]? = some t → args[j]? = some v → Value.okWide Try.prog W .any base t v := hval0
  have hW' := hW
  obtain ⟨p, q, hA0, hV, rfl, hfz, hnd⟩ := hW
  have hA : DataW.TrodAll enc Try.prog W 0 (fun _ => true) true Try.f6.params.toList args.toList ds p := hA0
  rw [Try.params6] at hA hval
  obtain ⟨v0, vs0, d0, ds0, p0, q0, hargs, rfl, rfl, h0, r0⟩ := trodAll_cons hA
  obtain ⟨v1, vs1, d1, ds1, p1, q1, rfl, rfl, rfl, h1, r1⟩ := trodAll_cons r0
  obtain ⟨rfl, rfl, rfl⟩ := trodAll_nil r1
  obtain rfl : args = #[v0, v1] := by cases args; simp_all
  obtain ⟨rfl, rfl⟩ := trodVars_none hV
  obtain ⟨a0, len0, cap0, rfl⟩ := okWide_slice Try.underlying22 (hval 0 22 v0 rfl rfl)
  have k0 := h0
  have lt0 : ∀ x ∈ p0, x.block < W.heap.size := by obtain ⟨m, hm⟩ := k0; exact DataW.trod_lt m _ _ _ hm
  obtain ⟨z0, w0⟩ : ∃ zs, IsRow .u8 W a0 len0 cap0 zs := by
    obtain ⟨fuel, hf⟩ := h0
    rcases open_ints Try.underlying22 Try.underlying5 (by kernel_rfl) hf with ⟨hcs, _⟩ | ⟨x, l, c, zs, hcs, _, hl, hm, hz, hdx, hcell, hwz⟩
    · simp [Value.cells] at hcs
      obtain ⟨rfl, rfl, rfl⟩ := hcs
      exact ⟨[], .inl ⟨rfl, rfl, rfl, rfl⟩⟩
    · simp [Value.cells] at hcs
      obtain ⟨rfl, rfl, rfl⟩ := hcs
      have hz' : zs.length = cap0 := by simpa using hz
      exact ⟨zs, .inr ⟨_, rfl, hl, hm, hz', hcell, hwz⟩⟩
  obtain ⟨a1, rfl, rfl, rfl, w1⟩ := open_int Try.underlying3 (hval 1 3 v1 rfl rfl) h1
  clear hA0 hval0
  refine (walk a0 len0 cap0 z0 a1 W w0 w1).mono fun e W' ⟨he, bel⟩ => ?_
  subst he
  exact ⟨_, rfl, _, _, _, [], _, [], hW', trodAll_mk1 (shut_bool Try.underlying4 _), (trodAll_cons_mk (Below.trod laidOut (by kernel_rfl) (of_decide_eq_true (by kernel_rfl)) k0 bel lt0) (trodAll_cons_mk (shut_int Try.underlying3 w1) trodAll_mk0)), rfl, bel.frame _, fun h => by cases h⟩

theorem over : Rows.utfDecodesRow.holds Try.pinned (OpenSpec.ofChange Rows.utfDecodesSpec) :=
  OpenClaim.holds_of_wide 6 Try.f6 rfl rfl rfl rfl rfl rfl rfl ⟨rfl, rfl, rfl, rfl, rfl⟩ rfl rfl rfl rfl rfl (by kernel_rfl) Try.func6 (by kernel_rfl)
    (of_decide_eq_true (by kernel_rfl)) (by unfold Func.isWrapper; first | (rw [if_pos (by decide +kernel)]; kernel_rfl) | (rw [if_neg (by decide +kernel)]; exact ⟨rfl, rfl⟩))
    (fun os started H enc _ => lifted os started H enc)

theorem proved : Rows.UtfDecodesSaid := over
#print axioms proved
end Go.Proofs.Ytmdgopclcdmenaa.utfDecodes
