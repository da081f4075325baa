/- The contracts of utf.Feeder's take, Feed, End, Place, Held, of New, Check, Right. -/
import Derived.Test.YtmdgopclcdmenaaUtfQ
import Derived.Test.YtmdgopclcdmenaaUtfB
import Derived.Deep.QuietTactic
import Derived.BigQuiet
import Derived.RegionTactic
import Derived.ChangeAlike
namespace Go.Proofs.Ytmdgopclcdmenaa
open Go.RowKit
set_option linter.unusedSimpArgs false
set_option linter.unusedVariables false

/-- A feeder's cells. -/
def fcells (p : Nat) (hs : List UInt8) (m : Nat) (bad : Bool) : Array Value := ([Value.int .i64 p] ++ hs.map bv ++ [Value.int .i64 m, Value.bool bad]).toArray
theorem fcells_0 (p : Nat) (hs : List UInt8) (m : Nat) (bad : Bool) : (fcells p hs m bad)[0]? = some (.int .i64 p) := by simp [fcells]
theorem fcells_h (p : Nat) (hs : List UInt8) (m : Nat) (bad : Bool) (j : Nat) (h : j < hs.length) : (fcells p hs m bad)[1 + j]? = some (bv hs[j]) := by
  unfold fcells
  rw [List.getElem?_toArray, List.append_assoc, List.getElem?_append_right (by simp <;> omega), List.getElem?_append_left (by simp <;> omega)]
  simp [h]
theorem fcells_m (p : Nat) (hs : List UInt8) (m : Nat) (bad : Bool) (hl : hs.length = 4) : (fcells p hs m bad)[5]? = some (.int .i64 m) ∧ (fcells p hs m bad)[6]? = some (.bool bad) := by
  unfold fcells
  rw [List.getElem?_toArray, List.getElem?_toArray, List.getElem?_append_right (by simp; omega), List.getElem?_append_right (by simp; omega)]
  simp [hl]
theorem fcells_set0 (p q : Nat) (hs : List UInt8) (m : Nat) (bad : Bool) : (fcells p hs m bad).setIfInBounds 0 (.int .i64 q) = fcells q hs m bad := by simp [fcells]
theorem fcells_seth (p : Nat) (hs : List UInt8) (m : Nat) (bad : Bool) (j : Nat) (h : j < hs.length) (c : UInt8) : (fcells p hs m bad).setIfInBounds (1 + j) (bv c) = fcells p (hs.set j c) m bad := by
  unfold fcells
  rw [List.setIfInBounds_toArray, List.append_assoc, List.append_assoc, List.set_append_right _ _ (by simp), List.length_singleton, Nat.add_sub_cancel_left, List.set_append_left _ _ (by simp; exact h), List.map_set]
theorem fcells_setm (p : Nat) (hs : List UInt8) (m q : Nat) (bad : Bool) (hl : hs.length = 4) : (fcells p hs m bad).setIfInBounds 5 (.int .i64 q) = fcells p hs q bad := by
  unfold fcells
  rw [List.setIfInBounds_toArray, List.set_append_right _ _ (by simp; omega)]
  simp [hl]
theorem fcells_setb (p : Nat) (hs : List UInt8) (m : Nat) (bad q : Bool) (hl : hs.length = 4) : (fcells p hs m bad).setIfInBounds 6 (.bool q) = fcells p hs m q := by
  unfold fcells
  rw [List.setIfInBounds_toArray, List.set_append_right _ _ (by simp; omega)]
  simp [hl]

/-- What stands in memory for a feeder's state. -/
def FB (w : World) (b : Nat) (f : Fd) : Prop := ∃ hs : List UInt8, hs.length = 4 ∧ hs.take f.held.length = f.held ∧ f.held.length < 4 ∧ Blk w b 87 (fcells f.place hs f.held.length f.bad)
/-- A state that may be. -/
def HOk (h : List UInt8) : Prop := match h with | [] => True | a :: l => l.length + 1 < wd a.toNat
def Fok (f : Fd) : Prop := HOk f.held
theorem HOk.lt {h : List UInt8} (hf : HOk h) : h.length < 4 := by
  cases h with
  | nil => simp
  | cons a l => have h1 : l.length + 1 < wd a.toNat := hf; have := wd_le a.toNat; simp; omega
theorem tk_ok {h h' : List UInt8} {c : UInt8} (hf : HOk h) (he : tk h c = some h') : HOk h' := by
  cases h with
  | nil =>
    unfold tk at he
    simp only at he
    split at he
    · cases he
    · split at he
      · injection he with he; subst he; trivial
      · injection he with he; subst he; show 0 + 1 < wd c.toNat; omega
  | cons a l =>
    have h1 : l.length + 1 < wd a.toNat := hf
    unfold tk at he
    simp only at he
    split at he
    · split at he
      · injection he with he; subst he; trivial
      · injection he with he; subst he; show (l ++ [c]).length + 1 < wd a.toNat; simp; omega
    · cases he
theorem fstep_ok {f : Fd} {c : UInt8} (hf : Fok f) : Fok (fstep f c) := by
  unfold fstep
  split
  · exact hf
  · cases he : tk f.held c with
    | none => trivial
    | some h => exact tk_ok (h := f.held) hf he
theorem frun_ok {f : Fd} (hf : Fok f) : ∀ bs, Fok (frun f bs) := by
  refine snoc_ind hf ?_
  intro bs c ih
  rw [frun_snoc]
  exact fstep_ok ih
theorem frun_bad {f : Fd} (hb : f.bad = true) : ∀ bs, frun f bs = f := by
  refine snoc_ind rfl ?_
  intro bs c ih
  rw [frun_snoc, ih, fstep, if_pos hb]
theorem fstep_good {f : Fd} {c : UInt8} {h : List UInt8} (hb : f.bad = false) (he : tk f.held c = some h) : fstep f c = ⟨f.place + 1, h, false⟩ := by
  unfold fstep; rw [if_neg (by rw [hb]; decide), he]
theorem fstep_fail {f : Fd} {c : UInt8} (hb : f.bad = false) (he : tk f.held c = none) : fstep f c = ⟨f.place, [], true⟩ := by
  unfold fstep; rw [if_neg (by rw [hb]; decide), he]
theorem fini_ok : Fok fini := trivial
theorem frun_place_le (s : List UInt8) : (frun fini s).place ≤ s.length := by
  by_cases h : (frun fini s).bad = true
  · exact Nat.le_of_lt (fd_bad s h).2.2
  · exact Nat.le_of_eq (fd_good s (by simpa using h)).1

theorem FB.lt {w : World} {b : Nat} {f : Fd} (h : FB w b f) : b < w.heap.size := by obtain ⟨hs, _, _, _, hb⟩ := h; exact hb.lt
theorem FB.below {w w' : World} {B b : Nat} {f : Fd} (h : FB w b f) (hb : Below B w w') (hlt : b < B) : FB w' b f := by
  obtain ⟨hs, h1, h2, h3, hk⟩ := h
  exact ⟨hs, h1, h2, h3, hk.below hb hlt⟩
theorem FB.drew {w : World} {b : Nat} {f : Fd} (h : FB w b f) : FB w.drew b f := h
theorem FB.drewN {w : World} {b : Nat} {f : Fd} (h : FB w b f) (n : Nat) : FB (w.drewN n) b f := h
end Go.Proofs.Ytmdgopclcdmenaa
