/-
  Proved: 'BaseTurned' answers true at every job: what is written is read, and a letter that is turned is refused or tells other bytes. No condition beyond the given values' own.
-/
import Derived.Test.YtdlplmflimleaaaBaseT
import Derived.Test.YtdlplmflimleaaaRows
import Derived.WalkKit
import Derived.ProofKit
import Derived.OpenShut
import Derived.ShutString
import Derived.ChangeOld
import Derived.Below
import Derived.Lib.SmallJoins
namespace Go.Proofs.Ytdlplmflimleaaa.baseTurned
open Go.ChangeShapes Go.WideShapes Go.ChangeAt Go.RowKit
open Go.ChangeMaps (open_string shut_string)
set_option linter.unusedVariables false
set_option linter.unusedSimpArgs false

theorem own : ownKnob Try.prog.godebug = none := by kernel_rfl
theorem laidOut : laidOutB Try.prog = true := by kernel_rfl
theorem cells52 : Try.prog.cellsOf 52 = 4 := by kernel_rfl

theorem walk (a0 : Int) (a1 : Option Addr) (len1 cap1 : Nat) (bs : List UInt8) (a2 : Int) (a3 : UInt8) (w : World) (w0 : (Lit.int .i64 a0).wf = true) (w1 : RB w w.heap.size a1 len1 bs) (m1 : len1 ≤ maxLen) (w2 : (Lit.int .i64 a2).wf = true) :
    Calls Try.prog 8 #[.agg #[.int .i64 a0, .slice a1 len1 cap1, .int .i64 a2, bv a3]] w fun e w' => e = .returned (.bool true) ∧ Below w.heap.size w w' := by
  have b0 := bounds_i64 w0
  have b2 := bounds_i64 w2
  have HR := Lib.hid w1
  unfold maxLen at m1
  clear w0 w2 w1
  go_enter Try.func8, Try.ntmps8
  go_wp2_with fail
  have hb : Below w.heap.size w (w.alloc (.cells #[.int .i64 a0, .slice a1 len1 cap1, .int .i64 a2, bv a3] 52)) := (Below.refl _ _).alloc (Nat.le_refl _) _
  have hs : w.heap.size ≤ (w.alloc (.cells #[.int .i64 a0, .slice a1 len1 cap1, .int .i64 a2, bv a3] 52)).heap.size := hb.size
  refine (back_any a0 a1 len1 cap1 w.heap.size bs a2 a3 _ (HR.out.below hb) hs (by omega) b0 b2).mono ?_
  rintro e w' ⟨rfl, hb'⟩
  go_wp2_with fail
  go_ret
  exact ⟨rfl, keepb hb hb'⟩

set_option maxRecDepth 100000 in
theorem lifted (os : Os) (started : os.Started) (H : Type) (enc : TypeId × Value → H) :
    ReturnsInHanded {} Try.checked os 8 .any (Rows.baseTurnedSpec.pre6 enc Try.prog Try.f8 Rows.baseTurnedRow.domain false) (Rows.baseTurnedSpec.post enc Try.prog Try.f8 false true false false) := by
  refine returnsInHanded_of_change (C := Try.checked) own started (by kernel_rfl) Try.func8
    (ChangeSpec.witness6 (enc := enc) (C := Try.checked) false ⟨#[], #[.agg #[.int .i64 0, .slice none 0 0, .int .i64 0, .int .u8 0]], []⟩ 8 (by kernel_rfl) (by kernel_rfl) (by kernel_rfl) (by kernel_rfl)) ?_
  intro W base args ds gs before hval0 hW hcnd _
  have hval : ∀ (j : Nat) t v, Try.f8.params[j]? = some t → args[j]? = some v → Value.okWide Try.prog W .any base t v := hval0
  have hW' := hW
  obtain ⟨p, q, hA0, hV, rfl, hfz, hnd⟩ := hW
  have hA : DataW.TrodAll enc Try.prog W 0 (fun _ => true) true Try.f8.params.toList args.toList ds p := hA0
  rw [Try.params8] at hA hval
  obtain ⟨v0, vs0, d0, ds0, p0, q0, hargs, rfl, rfl, h0, r0⟩ := trodAll_cons hA
  obtain ⟨rfl, rfl, rfl⟩ := trodAll_nil r0
  obtain rfl : args = #[v0] := by cases args; simp_all
  obtain ⟨rfl, rfl⟩ := trodVars_none hV
  have k0 := h0
  have lt0 : ∀ x ∈ p0, x.block < W.heap.size := by obtain ⟨m, hm⟩ := k0; exact DataW.trod_lt m _ _ _ hm
  obtain ⟨c0, c1, c2, c3, y0, y1, y2, y3, m, rfl, hd, hp, hy0, hy1, hy2, hy3⟩ := Joins.open_agg4 Try.underlying52 (by kernel_rfl) cells52 (hval 0 _ v0 rfl rfl) h0
  obtain ⟨a0, e0, _, w0⟩ := DataW.trod_int Try.underlying3 hy0
  obtain ⟨a2, e2, _, w2⟩ := DataW.trod_int Try.underlying3 hy2
  obtain ⟨a3, e3, _, w3⟩ := DataW.trod_int Try.underlying5 hy3
  simp at e0 e2 e3
  subst e0 e2 e3
  obtain ⟨a1, len1, cap1, bs, rfl, w1, m1⟩ : ∃ a1 len1 cap1 bs, c1 = .slice a1 len1 cap1 ∧ RB W W.heap.size a1 len1 bs ∧ len1 ≤ maxLen := by
    rcases open_ints Try.underlying34 Try.underlying5 (by kernel_rfl) hy1 with ⟨hcs, _⟩ | ⟨x, l, c, zs, hcs, _, hl, hm, hz, hdx, hcell, hwz⟩
    · simp at hcs
      exact ⟨none, 0, 0, [], hcs, RB.nil _ _ _, by unfold maxLen; omega⟩
    · simp at hcs
      have hz' : zs.length = c := by simpa using hz
      exact ⟨_, _, _, _, hcs, (RB.of_row (.inr ⟨x, rfl, hl, hm, hz', hcell, hwz⟩)).1, Nat.le_trans hl hm⟩
  obtain ⟨b3, rfl⟩ : ∃ b : UInt8, a3 = (b.toNat : Int) := by
    have hw := bounds_u8 w3
    have hlt : a3.toNat < UInt8.size := by show a3.toNat < 256; omega
    refine ⟨UInt8.ofNat a3.toNat, ?_⟩
    rw [UInt8.toNat_ofNat_of_lt' hlt]
    omega
  clear hA0 hval0
  refine (walk a0 a1 len1 cap1 bs a2 b3 W w0 w1 m1 w2).mono fun e W' ⟨he, bel⟩ => ?_
  subst he
  exact ⟨_, rfl, _, _, _, [], _, [], hW', trodAll_mk1 (shut_bool Try.underlying4 _), (trodAll_cons_mk (Below.trod laidOut (by kernel_rfl) (of_decide_eq_true (by kernel_rfl)) k0 bel lt0) trodAll_mk0), rfl, bel.frame _, fun h => by cases h⟩

theorem over : Rows.baseTurnedRow.holds Try.pinned (OpenSpec.ofChange Rows.baseTurnedSpec) :=
  OpenClaim.holds_of_wide 8 Try.f8 rfl rfl rfl rfl rfl rfl rfl ⟨rfl, rfl, rfl, rfl, rfl⟩ rfl rfl rfl rfl rfl (by kernel_rfl) Try.func8 (by kernel_rfl)
    (of_decide_eq_true (by kernel_rfl)) (by unfold Func.isWrapper; first | (rw [if_pos (by decide +kernel)]; kernel_rfl) | (rw [if_neg (by decide +kernel)]; exact ⟨rfl, rfl⟩))
    (fun os started H enc _ => lifted os started H enc)

theorem proved : Rows.BaseTurnedSaid := over
#print axioms proved
end Go.Proofs.Ytdlplmflimleaaa.baseTurned
