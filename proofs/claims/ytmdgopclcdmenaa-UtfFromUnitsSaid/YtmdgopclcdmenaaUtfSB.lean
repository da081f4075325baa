/- strings.Builder at this seat: the shelf's facts on String and utf8.AppendRune as the kit's tool lays them; copyCheck and WriteRune by a walk. -/
import Derived.Test.YtmdgopclcdmenaaUtfZ
import Derived.Lib.Builder
import Derived.Lib.RuneBytes
import Derived.Shelf.Strings.Builder1
import Derived.Shelf.Utf8.AppendRunePlain
import Derived.KernelRfl
namespace Go.Proofs.Ytmdgopclcdmenaa
open Go.RowKit Go.Shelf
set_option linter.unusedSimpArgs false
set_option linter.unusedVariables false

def lays169_ren : Go.Shelf.Ren := ⟨fun | 169 => 63 | n => n, fun | 70 => 104 | 9 => 9 | 0 => 0 | 72 => 106 | 37 => 22 | 127 => 116 | 3 => 3 | 5 => 5 | n => n, fun | n => n⟩
theorem lays169 : Go.Proofs.Lays.n169 Try.prog lays169_ren := {
  mixed := by kernel_rfl
  f169 := Try.func63.trans (congrArg some (by kernel_rfl))
  t0 := Try.underlying0
  a0 := Try.isAgg0
  z0 := Try.sizeOf0
  v0 := Try.zeroValue0
  t3 := Try.underlying3
  a3 := Try.isAgg3
  z3 := Try.sizeOf3
  v3 := Try.zeroValue3
  t9 := Try.underlying9
  a9 := Try.isAgg9
  z9 := Try.sizeOf9
  v9 := Try.zeroValue9
  t37 := Try.underlying22
  a37 := Try.isAgg22
  z37 := Try.sizeOf22
  v37 := Try.zeroValue22
  t70 := Try.underlying104
  a70 := Try.isAgg104
  z70 := Try.sizeOf104
  v70 := Try.zeroValue104
  t72 := Try.underlying106
  a72 := Try.isAgg106
  z72 := Try.sizeOf106
  v72 := Try.zeroValue106
  t127 := Try.underlying116
  a127 := Try.isAgg116
  z127 := Try.sizeOf116
  v127 := Try.zeroValue116 }
theorem Builder_Extra_169 : Builder.Extra Try.prog lays169_ren := {
  sizeBuilder := by kernel_rfl
  liesBuilder := by kernel_rfl
  t5 := Try.underlying5
  a5 := Try.isAgg5
  z5 := Try.sizeOf5
  v5 := Try.zeroValue5
  infoByte := by kernel_rfl
  cellsByte := by kernel_rfl
  sizeByte := by kernel_rfl
  neB5 := by decide }
def lays242_ren : Go.Shelf.Ren := ⟨fun | 242 => 70 | 278 => 72 | n => n, fun | 37 => 22 | 21 => 21 | 51 => 129 | 4 => 4 | 5 => 5 | 46 => 109 | n => n, fun | n => n⟩
theorem lays242 : Go.Proofs.Lays.n242 Try.prog lays242_ren := {
  mixed := by kernel_rfl
  f242 := Try.func70.trans (congrArg some (by kernel_rfl))
  f278 := Try.func72.trans (congrArg some (by kernel_rfl))
  t4 := Try.underlying4
  a4 := Try.isAgg4
  z4 := Try.sizeOf4
  v4 := Try.zeroValue4
  t5 := Try.underlying5
  a5 := Try.isAgg5
  z5 := Try.sizeOf5
  v5 := Try.zeroValue5
  t21 := Try.underlying21
  a21 := Try.isAgg21
  z21 := Try.sizeOf21
  v21 := Try.zeroValue21
  t37 := Try.underlying22
  a37 := Try.isAgg22
  z37 := Try.sizeOf22
  v37 := Try.zeroValue22
  t46 := Try.underlying109
  a46 := Try.isAgg109
  z46 := Try.sizeOf109
  v46 := Try.zeroValue109
  t51 := Try.underlying129
  a51 := Try.isAgg129
  z51 := Try.sizeOf129
  v51 := Try.zeroValue129 }

/-- A builder of the call's own: the bytes that it holds. -/
def SB (w : World) (base b : Nat) (bs : List UInt8) : Prop :=
  base ≤ b ∧ ∃ p v, (p = .pointer none ∨ p = .pointer (some ⟨b, 0, none⟩)) ∧ Blk w b 106 #[p, v] ∧ w.ownsRow base 5 1 v bs.length (bs.map bv)
theorem SB.lt {w : World} {base b : Nat} {bs : List UInt8} (h : SB w base b bs) : b < w.heap.size := by obtain ⟨_, p, v, _, hb, _⟩ := h; exact hb.lt
theorem SB.drew {w : World} {base b : Nat} {bs : List UInt8} (h : SB w base b bs) : SB w.drew base b bs := h
theorem SB.new (w : World) : SB (w.alloc (.cells #[.pointer none, .slice none 0 0] 106)) w.heap.size w.heap.size [] :=
  ⟨Nat.le_refl _, _, _, .inl rfl, Blk.new w _ _, World.ownsRow_nil _ _ _ _⟩
theorem SB.below {w w' : World} {base b : Nat} {bs : List UInt8} (h : SB w base b bs) (hb : Below w.heap.size w w') : SB w' base b bs := by
  obtain ⟨h0, p, v, hp, hk, ho⟩ := h
  refine ⟨h0, p, v, hp, hk.below hb hk.lt, ho.kept ⟨hb.os, hb.tape, hb.output, hb.size, fun k hk' _ => hb.block k hk'⟩ (row := none) ?_⟩
  cases hv : v.ownBlock with
  | none => exact .inl rfl
  | some k => exact .inr (by simp)

theorem sizeB : (Try.prog.info? 106).map (·.size) = some 2 := by kernel_rfl
theorem liesB : liesAt Try.prog Try.prog.depth 106 (2 / Try.prog.cellsOf 106) 0 106 1 = true := by kernel_rfl
theorem shape_blk {w : World} {g : Nat} {t : TypeId} {cs : Array Value} (h : Blk w g t cs) : w.shape? g = some (t, cs.size) := by
  unfold Blk at h
  simp [World.shape?, h]

set_option maxRecDepth 100000 in
theorem cc_used (b : Nat) (w : World) (h0 : w.cell? ⟨b, 0, none⟩ = some (.pointer (some ⟨b, 0, none⟩))) :
    Calls Try.prog 69 #[.pointer (some ⟨b, 0, none⟩)] w fun e w' => e = .returned (.tuple #[]) ∧ w = w' := by
  obtain ⟨j, hj, _⟩ := Option.map_eq_some_iff.1 sizeB
  have hq := Lib.run_neq_ptr_same (P := Try.prog) w ⟨b, 0, none⟩ Try.underlying104 hj
  clear hj
  go_enter Try.func69, Try.ntmps69
  go_wp2
  go_end0
  exact ⟨rfl, rfl⟩
set_option maxRecDepth 100000 in
theorem cc_fresh (b : Nat) (w : World) (h0 : w.cell? ⟨b, 0, none⟩ = some (.pointer none)) (hsh : w.shape? b = some (106, 2)) (hfz : w.frozen? ⟨b, 0, none⟩ = false) :
    Calls Try.prog 69 #[.pointer (some ⟨b, 0, none⟩)] w fun e w' => e = .returned (.tuple #[]) ∧ w.setCell ⟨b, 0, none⟩ (.pointer (some ⟨b, 0, none⟩)) = w' := by
  obtain ⟨j, hj, hjs⟩ := Option.map_eq_some_iff.1 sizeB
  have k1 := Lib.run_to_unsafe (P := Try.prog) w ⟨b, 0, none⟩ Try.underlying104 Try.underlying127 hj (by rw [hjs]; decide) hsh (Nat.zero_lt_succ 1)
  have k2 := @run_callFunc_extern Try.prog 71 _ Extern.AbiNoEscape.same Try.func71 (by kernel_rfl) (by kernel_rfl) (by kernel_rfl) (by kernel_rfl)
  have k3 := Lib.run_noEscape (P := Try.prog) w
  have k4 := Lib.run_from_unsafe (P := Try.prog) w ⟨b, 0, none⟩ Try.underlying127 Try.underlying104 hj hsh liesB
  clear hj hjs hsh
  go_enter Try.func69, Try.ntmps69
  go_wp2
  go_end0
  exact ⟨rfl, rfl⟩
end Go.Proofs.Ytmdgopclcdmenaa
