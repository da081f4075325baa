/- A text turned to bytes: the row that is made, with a mark behind it; stores into it; back to a text. -/
import Derived.Test.YtnajondbdeclmaaGreatDoorBytes
import Derived.Test.YtnajondbdeclmaaGreatDoorRow
import Derived.Laws.IdiomStrings
namespace Go.Proofs.YtnajondbdeclmaaGreatDoor
open Go.RowKit
set_option linter.unusedSimpArgs false
set_option linter.unusedVariables false

/-- A row of bytes that a text was turned to: behind it a mark. -/
def BM (w : World) (g : Nat) (l : List UInt8) : Prop := w.heap[g]? = some (.cells (l.map bv).toArray 5 (l.length, l.length + 1))
theorem BM.lt {w : World} {g : Nat} {l : List UInt8} (h : BM w g l) : g < w.heap.size := by
  rcases Nat.lt_or_ge g w.heap.size with hlt | hge
  · exact hlt
  · unfold BM at h; rw [Array.getElem?_eq_none hge] at h; cases h
theorem BM.cell {w : World} {g : Nat} {l : List UInt8} (h : BM w g l) (i : Nat) (hi : i < l.length) : w.cell? ⟨g, i, none⟩ = some (bv l[i]) := by
  rw [cell_of_row w g i _ _ _ h]; simp [hi]
theorem BM.frozen {w : World} {g : Nat} {l : List UInt8} (h : BM w g l) (i : Nat) (hi : i < l.length) : w.frozen? ⟨g, i, none⟩ = false := by
  unfold BM at h
  simp [World.frozen?, h]
  omega
theorem BM.below {w w' : World} {B g : Nat} {l : List UInt8} (h : BM w g l) (hb : Below B w w') (hg : g < B) : BM w' g l := (hb.block g hg).trans h
theorem BM.set {w : World} {g : Nat} {l : List UInt8} (h : BM w g l) (i : Nat) (b : UInt8) : BM (w.setCell ⟨g, i, none⟩ (bv b)) g (l.set i b) := by
  unfold BM at h ⊢
  simp [World.setCell, Array.getElem?_modify, h]
theorem BM.rb {w : World} {g : Nat} {l : List UInt8} (h : BM w g l) (n : Nat) (hn : n ≤ l.length) : RB w (g + 1) (some ⟨g, 0, none⟩) n (l.take n) :=
  ⟨by simp; omega, fun _ => ⟨g, 0, rfl, by omega, fun j hj => by rw [Nat.zero_add, h.cell j (by simp at hj; omega)]; simp⟩⟩

theorem bytesCells_eq (w : World) (s : List UInt8) : Lib.bytesCells w 5 ⟨s.toArray⟩ = ((s ++ List.replicate (grownCap w s.length 0 5 - s.length) 0).map bv).toArray := by
  apply Array.ext'
  have hsz : (⟨s.toArray⟩ : ByteArray).size = s.length := rfl
  rw [Lib.bytesCells, hsz]
  simp [bv]
theorem bytes_BM (w : World) (s : List UInt8) : BM (Lib.bytesWorld w 5 ⟨s.toArray⟩) w.heap.size (s ++ List.replicate (grownCap w s.length 0 5 - s.length) 0) := by
  have h := Lib.bytesWorld_at_new w 5 ⟨s.toArray⟩
  rw [bytesCells_eq] at h
  unfold BM
  rw [h]
  simp

/-- A text turned to bytes. -/
theorem run_tobytes (w : World) (s : List UInt8) :
    (convert 9 66 (.string ⟨s.toArray⟩)).run Tryz.prog w = .ok (.slice (some ⟨w.heap.size, 0, none⟩) s.length (grownCap w s.length 0 5)) (Lib.bytesWorld w 5 ⟨s.toArray⟩) :=
  Lib.run_convert_string_bytes (P := Tryz.prog) w 9 66 5 ⟨s.toArray⟩ Tryz.underlying9 Tryz.underlying66 Tryz.underlying5

/-- Back to a text. -/
theorem BM.str {w : World} {g : Nat} {l : List UInt8} (h : BM w g l) (n c : Nat) (hn : n ≤ l.length) : (convert 66 9 (.slice (some ⟨g, 0, none⟩) n c)).run Tryz.prog w = .ok (.string ⟨(l.take n).toArray⟩) w :=
  str_of_RB (h.rb n hn) c
theorem tobytes_at (s : List UInt8) (w : World) : ∃ k W, (convert 9 66 (.string ⟨s.toArray⟩)).run Tryz.prog w = .ok (.slice (some ⟨w.heap.size, 0, none⟩) s.length (s.length + k)) W ∧ BM W w.heap.size (s ++ List.replicate k 0) ∧ Below w.heap.size w W := by
  have hge := grownCap_ge w s.length 0 5
  have h := run_tobytes w s
  have h2 := bytes_BM w s
  obtain ⟨k, hk⟩ : ∃ k, grownCap w s.length 0 5 = s.length + k := ⟨grownCap w s.length 0 5 - s.length, by omega⟩
  rw [hk] at h
  rw [hk, show s.length + k - s.length = k by omega] at h2
  exact ⟨k, _, h, h2, below_bytesWorld w 5 ⟨s.toArray⟩⟩
end Go.Proofs.YtnajondbdeclmaaGreatDoor
