/- The contracts of utf.Encode and utf.Decode. -/
import Derived.Test.YtmdgopclcdmenaaUtfA
import Derived.Test.YtmdgopclcdmenaaBytes
import Derived.Test.YtmdgopclcdmenaaRow
import Derived.Deep.RegionHeld3
import Derived.Deep.DrawnRows
import Derived.BigRegion
import Derived.Laws.IdiomStrings
namespace Go.Proofs.Ytmdgopclcdmenaa
open Go.RowKit
set_option linter.unusedSimpArgs false
set_option linter.unusedVariables false

/-- An error made of an Errno, of a Spot. -/
abbrev eno (n : Int) : Value := .iface 30 (.int .i64 n)
abbrev spotE (no at_ : Int) : Value := .iface 83 (.agg #[.int .i64 no, .int .i64 at_])

/-- A row of bytes that a text was turned to: behind it a mark. -/
def BM (w : World) (g : Nat) (l : List UInt8) : Prop := w.heap[g]? = some (.cells (l.map bv).toArray 5 (l.length, l.length + 1))
theorem BM.lt {w : World} {g : Nat} {l : List UInt8} (h : BM w g l) : g < w.heap.size := by
  rcases Nat.lt_or_ge g w.heap.size with hlt | hge
  · exact hlt
  · unfold BM at h; rw [Array.getElem?_eq_none hge] at h; cases h
theorem BM.cell {w : World} {g : Nat} {l : List UInt8} (h : BM w g l) (i : Nat) (hi : i < l.length) : w.cell? ⟨g, i, none⟩ = some (bv l[i]) := by
  rw [cell_of_row w g i _ _ _ h]; simp [hi]
theorem BM.frozen {w : World} {g : Nat} {l : List UInt8} (h : BM w g l) (i : Nat) (hi : i < l.length) : w.frozen? ⟨g, i, none⟩ = false := by
  unfold BM at h
  simp [World.frozen?, h]
  omega
theorem BM.below {w w' : World} {B g : Nat} {l : List UInt8} (h : BM w g l) (hb : Below B w w') (hg : g < B) : BM w' g l := (hb.block g hg).trans h
theorem BM.set {w : World} {g : Nat} {l : List UInt8} (h : BM w g l) (i : Nat) (b : UInt8) : BM (w.setCell ⟨g, i, none⟩ (bv b)) g (l.set i b) := by
  unfold BM at h ⊢
  simp [World.setCell, Array.getElem?_modify, h]
theorem BM.rb {w : World} {g : Nat} {l : List UInt8} (h : BM w g l) (n : Nat) (hn : n ≤ l.length) : RB w (g + 1) (some ⟨g, 0, none⟩) n (l.take n) :=
  ⟨by simp; omega, fun _ => ⟨g, 0, rfl, by omega, fun j hj => by rw [Nat.zero_add, h.cell j (by simp at hj; omega)]; simp⟩⟩

theorem bytesCells_eq (w : World) (s : List UInt8) : Lib.bytesCells w 5 ⟨s.toArray⟩ = ((s ++ List.replicate (grownCap w s.length 0 5 - s.length) 0).map bv).toArray := by
  apply Array.ext'
  have hsz : (⟨s.toArray⟩ : ByteArray).size = s.length := rfl
  rw [Lib.bytesCells, hsz]
  simp [bv]
theorem bytes_BM (w : World) (s : List UInt8) : BM (Lib.bytesWorld w 5 ⟨s.toArray⟩) w.heap.size (s ++ List.replicate (grownCap w s.length 0 5 - s.length) 0) := by
  have h := Lib.bytesWorld_at_new w 5 ⟨s.toArray⟩
  rw [bytesCells_eq] at h
  unfold BM
  rw [h]
  simp

/-- A text turned to bytes. -/
theorem run_tobytes (w : World) (s : List UInt8) :
    (convert 9 22 (.string ⟨s.toArray⟩)).run Try.prog w = .ok (.slice (some ⟨w.heap.size, 0, none⟩) s.length (grownCap w s.length 0 5)) (Lib.bytesWorld w 5 ⟨s.toArray⟩) :=
  Lib.run_convert_string_bytes (P := Try.prog) w 9 22 5 ⟨s.toArray⟩ Try.underlying9 Try.underlying22 Try.underlying5

/-- What comes of a text that is turned to bytes: new memory. -/
def NewB (s : List UInt8) (w : World) (v : Value) (w' : World) : Prop :=
  ∃ l : List UInt8, v = .slice (some ⟨w.heap.size, 0, none⟩) s.length l.length ∧ l.take s.length = s ∧ s.length ≤ l.length ∧ l.length ≤ maxLen ∧ BM w' w.heap.size l ∧ Below w.heap.size w w'
theorem newB (w : World) (s : List UInt8) (h : s.length ≤ 1000000000000000000) : NewB s w (.slice (some ⟨w.heap.size, 0, none⟩) s.length (grownCap w s.length 0 5)) (Lib.bytesWorld w 5 ⟨s.toArray⟩) := by
  have hge := grownCap_ge w s.length 0 5
  have hle := grownCap_le_maxLen w s.length 0 5 (by unfold maxLen; omega)
  have hl : (s ++ List.replicate (grownCap w s.length 0 5 - s.length) (0 : UInt8)).length = grownCap w s.length 0 5 := by simp; omega
  exact ⟨_, by rw [hl], by simp, by rw [hl]; exact hge, by rw [hl]; exact hle, bytes_BM w s, below_bytesWorld w 5 ⟨s.toArray⟩⟩

def EncPost (r : Int) (w : World) (e : Ending) (w' : World) : Prop :=
  (scalB r = false → e = .returned (.tuple #[.slice none 0 0, eno 2]) ∧ Below w.heap.size w w') ∧
  (∀ n : Nat, r = n → Scal n → ∃ v, e = .returned (.tuple #[v, .nilIface]) ∧ NewB (enc n) w v w')
theorem enc_le (n : Nat) : (enc n).length ≤ 4 := by rw [enc_length]; (repeat' split) <;> omega

set_option maxRecDepth 100000 in
theorem encode_any (r : Int) (w : World) : Calls Try.prog 14 #[.int .i32 r] w (EncPost r w) := by
  have hc := fun W => character_any r W
  by_cases h : scalB r = true
  · obtain ⟨n, rfl, hn⟩ := scalB_nat h
    rw [h] at hc
    have hk : ∀ W, (convert 9 22 (.string (Utf8.encode (n : Int)))).run Try.prog W = .ok (.slice (some ⟨W.heap.size, 0, none⟩) (enc n).length (grownCap W (enc n).length 0 5)) (Lib.bytesWorld W 5 ⟨(enc n).toArray⟩) := fun W => by
      rw [enc_model hn]; exact run_tobytes W (enc n)
    have HNB := Lib.hid (newB w (enc n) (by have := enc_le n; omega))
    have HC := Lib.hid hc
    have H := Lib.hid h
    clear h hn hc
    go_enter Try.func14, Try.ntmps14
    go_wp2_with (go_at_call 46; refine (HC.out _).mono ?_; rintro e w' ⟨rfl, rfl⟩)
    go_ret2
    refine ⟨fun h => ?_, fun m hm _ => ?_⟩
    · rw [H.out] at h; cases h
    · obtain rfl : n = m := by omega
      exact ⟨_, rfl, HNB.out⟩
  · have h : scalB r = false := by simpa using h
    rw [h] at hc
    have HC := Lib.hid hc
    have H := Lib.hid h
    clear h hc
    go_enter Try.func14, Try.ntmps14
    go_wp2_with (go_at_call 46; refine (HC.out _).mono ?_; rintro e w' ⟨rfl, rfl⟩)
    go_ret2
    refine ⟨fun _ => ⟨rfl, Below.refl _ _⟩, fun m hm hs => ?_⟩
    have := H.out
    subst hm
    unfold Scal at hs
    simp [scalB] at this
    omega

/-- The runes of one character. -/
theorem runes_one (s : List UInt8) (r : Nat) (h : chAt s 0 = ⟨r, s.length, 0, 0⟩) : Conv.runesFrom ⟨s.toArray⟩ (⟨s.toArray⟩ : ByteArray).size 0 #[] = #[.int .i32 (r : Int)] := by
  have hsz : (⟨s.toArray⟩ : ByteArray).size = s.length := rfl
  have hpos : 0 < s.length := by
    rcases chAt_spec s 0 with ⟨_, h1, _⟩ | ⟨h1, _⟩ | ⟨h1, _⟩ <;> rw [h] at h1
    · exact h1
    · cases h1
    · cases h1
  have hd := dec_eq hpos (by rw [h])
  rw [h] at hd
  rw [hsz]
  obtain ⟨m, hm⟩ : ∃ m, s.length = m + 1 := ⟨s.length - 1, by omega⟩
  rw [hm, Conv.runesFrom, if_pos (by rw [hsz]; exact hpos), hd]
  cases m with
  | zero => rfl
  | succ m =>
    show Conv.runesFrom _ (m + 1) (0 + s.length) _ = _
    rw [Conv.runesFrom, if_neg (by rw [hsz]; omega)]
    rfl

end Go.Proofs.Ytmdgopclcdmenaa
