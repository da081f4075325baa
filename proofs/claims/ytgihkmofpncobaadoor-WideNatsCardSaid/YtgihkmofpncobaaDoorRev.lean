/- The contract of slices.Reverse over bytes of the call's own. -/
import Derived.Test.YtgihkmofpncobaaDoorTyped
import Derived.Test.YtgihkmofpncobaaDoorProg
import Derived.WalkKit
import Derived.Deep.DrawnRows
namespace Go.Proofs.YtgihkmofpncobaaDoor
open Go.RowKit
attribute [local go_sem ↓] Go.wp_at_zero Go.wp_at_succ
set_option linter.unusedSimpArgs false
set_option linter.unusedVariables false

/-- A row turned round up to i from both ends. -/
def revTo (bs : List UInt8) (i : Nat) : List UInt8 := (List.range bs.length).map fun k => if k < i ∨ bs.length ≤ k + i then bs.getD (bs.length - 1 - k) 0 else bs.getD k 0
theorem revTo_length (bs : List UInt8) (i : Nat) : (revTo bs i).length = bs.length := by simp [revTo]
theorem revTo_get (bs : List UInt8) (i k : Nat) (h : k < bs.length) : (revTo bs i)[k]'(by rw [revTo_length]; exact h) = if k < i ∨ bs.length ≤ k + i then bs.getD (bs.length - 1 - k) 0 else bs.getD k 0 := by simp [revTo]
theorem revTo_zero (bs : List UInt8) : revTo bs 0 = bs := by
  refine List.ext_getElem (revTo_length _ _) fun k h1 h2 => ?_
  rw [revTo_get _ _ _ h2, if_neg (by omega)]
  simp [List.getD, h2]
theorem revTo_end (bs : List UInt8) (i : Nat) (h : bs.length ≤ 2 * i + 1) : revTo bs i = bs.reverse := by
  refine List.ext_getElem (by rw [revTo_length]; simp) fun k h1 h2 => ?_
  rw [revTo_length] at h1
  rw [revTo_get _ _ _ h1, List.getElem_reverse]
  by_cases hk : k < i ∨ bs.length ≤ k + i
  · rw [if_pos hk]; simp [List.getD, show bs.length - 1 - k < bs.length by omega]
  · rw [if_neg hk]
    have : bs.length - 1 - k = k := by omega
    simp [List.getD, h1, this]
theorem revTo_next (bs : List UInt8) (i j : Nat) (hj : i + j + 1 = bs.length) (hij : i < j) :
    ((revTo bs i).set i (bs.getD j 0)).set j (bs.getD i 0) = revTo bs (i + 1) := by
  refine List.ext_getElem (by simp [revTo_length]) fun k h1 h2 => ?_
  rw [revTo_length] at h2
  rw [revTo_get bs (i + 1) k h2, List.getElem_set, List.getElem_set]
  by_cases e1 : j = k
  · subst e1
    rw [if_pos rfl, if_pos (by omega)]
    congr 1; omega
  · rw [if_neg e1]
    by_cases e2 : i = k
    · subst e2
      rw [if_pos rfl, if_pos (by omega)]
      congr 1; omega
    · rw [if_neg e2, revTo_get bs i k h2]
      by_cases hk : k < i ∨ bs.length ≤ k + i
      · rw [if_pos hk, if_pos (by omega)]
      · rw [if_neg hk, if_neg (by omega)]

def RevP (g : Nat) (bs : List UInt8) (rest : List Value) (w : World) (e : Ending) (w' : World) : Prop :=
  e = .returned (.tuple #[]) ∧ Blk w' g 5 (bs.reverse.map bv ++ rest).toArray ∧ But w.heap.size g w w'

set_option maxRecDepth 100000 in
theorem reverse_any (base g c : Nat) (bs : List UInt8) (rest : List Value) (w : World) (hB : Blk w g 5 (bs.map bv ++ rest).toArray) (hn : bs.length ≤ 1000000000000) :
    Calls Tryd.prog 47 #[.slice (some ⟨g, 0, none⟩) bs.length c] w (RevP g bs rest w) := by
  have HB := Lib.hid hB
  clear hB
  go_enter Tryd.func47, Tryd.ntmps47
  go_wp2_with fail
  go_loopw [2, 3] (fun si sj wr => ∃ (i : Nat) (j : Int), si = .int .i64 i ∧ sj = .int .i64 j ∧ j + i + 1 = bs.length ∧ (i : Int) ≤ j + 1 ∧ Blk wr g 5 ((revTo bs i).map bv ++ rest).toArray ∧ But w.heap.size g w wr) (fun si _ _ => bs.length - (intOf si).toNat)
  case atStart => exact ⟨0, _, rfl, rfl, by omega, by omega, by rw [revTo_zero]; exact HB.out, But.refl _ _ _⟩
  case round =>
    obtain ⟨i, j, rfl, rfl, hij, hi1, hb, hbut⟩ := hrel
    have HBI := Lib.hid hb
    have HBUT := Lib.hid hbut
    by_cases hlt : (i : Int) < j
    · obtain ⟨k, rfl⟩ : ∃ k : Nat, j = k := ⟨j.toNat, by omega⟩
      have hik : i < k := by omega
      have hsum : i + k + 1 = bs.length := by omega
      have ci : wr.cell? ⟨g, i, none⟩ = some (bv (bs.getD i 0)) := by
        rw [hb.cell, List.getElem?_toArray, List.getElem?_append_left (by simp [revTo_length]; omega)]
        have h1 : i < (revTo bs i).length := by rw [revTo_length]; omega
        rw [List.getElem?_map, List.getElem?_eq_getElem h1, revTo_get bs i i (by omega), if_neg (by omega)]
        rfl
      have ck : wr.cell? ⟨g, k, none⟩ = some (bv (bs.getD k 0)) := by
        rw [hb.cell, List.getElem?_toArray, List.getElem?_append_left (by simp [revTo_length]; omega)]
        have h1 : k < (revTo bs i).length := by rw [revTo_length]; omega
        rw [List.getElem?_map, List.getElem?_eq_getElem h1, revTo_get bs i k (by omega), if_neg (by omega)]
        rfl
      have fi := hb.frozen i
      have fk := hb.frozen k
      have hb2 := (hb.set1 i (bv (bs.getD k 0))).set1 k (bv (bs.getD i 0))
      have hcs : (((revTo bs i).map bv ++ rest).toArray.setIfInBounds i (bv (bs.getD k 0))).setIfInBounds k (bv (bs.getD i 0)) = ((revTo bs (i + 1)).map bv ++ rest).toArray := by
        rw [← revTo_next bs i k hsum hik, List.setIfInBounds_toArray, List.setIfInBounds_toArray, List.set_append_left _ _ (by simp [revTo_length]; omega), List.set_append_left _ _ (by simp [revTo_length]; omega), List.map_set, List.map_set]
      rw [hcs] at hb2
      have HB2 := Lib.hid hb2
      have HBU2 := Lib.hid ((hbut.setCell (p := ⟨g, i, none⟩) (.inl rfl) (bv (bs.getD k 0))).setCell (p := ⟨g, k, none⟩) (.inl rfl) (bv (bs.getD i 0)))
      have q1 : (i : Int) < bs.length := by omega
      have q2 : (k : Int) < bs.length := by omega
      have q0 : (0 : Int) ≤ i := by omega
      have q3 : (0 : Int) ≤ k := by omega
      have hne : i ≠ k := by omega
      have hne' : k ≠ i := by omega
      clear hcs hb hbut hb2
      generalize bs.getD k 0 = x at *
      generalize bs.getD i 0 = y at *
      go_wp2_with fail
      go_region
      all_goals
        go_wp2
        go_roundw
        case rel => exact ⟨i + 1, (k : Int) - 1, by go_num, rfl, by omega, by omega, HB2.out, HBU2.out.drew⟩
        case measure => simp [intOf]; omega
    · have HE := Lib.hid (revTo_end bs i (by omega))
      go_wp2_with fail
      go_end0
      exact ⟨rfl, by rw [← HE.out]; exact HBI.out, HBUT.out⟩
end Go.Proofs.YtgihkmofpncobaaDoor
