/- The contracts of the law's errno, beyond, roomy, left. -/
import Derived.Test.YtmdgopclcdmenaaUtfB
import Derived.LaidEql
import Derived.Stop.Asserts
import Derived.RowKitTokens
import Derived.Lib.IfaceEq
import Derived.Deep.QuietTactic
import Derived.BigQuiet
namespace Go.Proofs.Ytmdgopclcdmenaa
open Go.RowKit Go.Extern.Stop Go.Stop Go.Extern Go.Lib
set_option linter.unusedSimpArgs false
set_option linter.unusedVariables false

theorem ta_eno (n : Int) (w : World) : (Instr.typeAssert (.iface 30 (.int .i64 n)) 24 30 true).run Try.prog w = .ok (.tuple #[.int .i64 n, .bool true]) w := by kernel_rfl
theorem ta_spot (no at_ : Int) (w : World) : (Instr.typeAssert (.iface 83 (.agg #[.int .i64 no, .int .i64 at_])) 24 83 true).run Try.prog w = .ok (.tuple #[.agg #[.int .i64 no, .int .i64 at_], .bool true]) w := by kernel_rfl
theorem errno_yes (n : Int) (w : World) :
    Calls Try.prog 17 #[.iface 30 (.int .i64 n), .int .i64 n] w fun e w' => e = .returned (.bool true) ∧ w = w' := by
  have ta := fun w => ta_eno n w
  have h1 : (n == n) = true := by simp
  go_enter Try.func17, Try.ntmps17
  go_wp2
  go_ret
  exact ⟨rfl, rfl⟩

theorem beyond_any (n : Nat) (w : World) (hn : n ≤ 9223372036854775807) :
    Calls Try.prog 23 #[.int .i64 n] w fun e w' => e = .returned (.bool (decide (2147483647 < n))) ∧ w = w' := by
  go_enter Try.func23, Try.ntmps23
  go_wp2
  go_ret
  exact ⟨by simp; omega, rfl⟩

theorem roomy_cells (bs : List UInt8) (n : Nat) (h : bs.length = n) : ((((bs.map bv ++ (zrow (n + 3)).drop n).toArray.setIfInBounds n (.int .u8 7)).setIfInBounds (n + 1) (.int .u8 8))).setIfInBounds (n + 2) (.int .u8 9) = ((bs ++ [7, 8, 9]).map bv).toArray := by
  subst h
  have e : (zrow (bs.length + 3)).drop bs.length = [bv 0, bv 0, bv 0] := by
    unfold zrow
    rw [List.drop_replicate, show bs.length + 3 - bs.length = 3 by omega]; rfl
  rw [e]
  simp
theorem roomy_cell (w : World) (g : Nat) (bs : List UInt8) (n : Nat) (h : bs.length = n) (hb : Blk w g 5 (bs.map bv ++ (zrow (n + 3)).drop n).toArray) :
    w.cell? ⟨g, n, none⟩ = some (bv 0) ∧ w.cell? ⟨g, n + 1, none⟩ = some (bv 0) ∧ w.cell? ⟨g, n + 2, none⟩ = some (bv 0) := by
  subst h
  have e : (zrow (bs.length + 3)).drop bs.length = [bv 0, bv 0, bv 0] := by
    unfold zrow
    rw [List.drop_replicate, show bs.length + 3 - bs.length = 3 by omega]; rfl
  rw [e] at hb
  rw [hb.cell, hb.cell, hb.cell]
  simp [List.getElem_append_right]

/-- A roomy copy of bytes. -/
def RoomB (w : World) (g : Nat) (bs : List UInt8) : Prop := Blk w g 5 ((bs ++ [7, 8, 9]).map bv).toArray
theorem RoomB.holds {w : World} {g n : Nat} {bs : List UInt8} (hb : RoomB w g bs) (h : bs.length = n) :
    RB w (g + 1) (some ⟨g, 0, none⟩) n bs ∧ w.cell? ⟨g, n, none⟩ = some (.int .u8 7) ∧ w.cell? ⟨g, n + 1, none⟩ = some (.int .u8 8) ∧ w.cell? ⟨g, n + 2, none⟩ = some (.int .u8 9) := by
  subst h
  refine ⟨⟨rfl, fun hn => ⟨g, 0, rfl, by omega, fun j hj => ?_⟩⟩, ?_, ?_, ?_⟩
  · rw [Blk.cell hb, Nat.zero_add]
    simp only [List.getElem?_toArray, List.map_append]
    rw [List.getElem?_append_left (by simpa using hj)]
    simp [hj]
  · rw [Blk.cell hb]; simp
  · rw [Blk.cell hb]; simp [List.getElem?_append_right]
  · rw [Blk.cell hb]; simp [List.getElem?_append_right]

set_option maxRecDepth 100000 in
theorem roomy_any (A : Option Addr) (n c B : Nat) (bs : List UInt8) (w : World) (h : RB w B A n bs) (hB : B ≤ w.heap.size) (hn : n ≤ 140737488355320) :
    Calls Try.prog 27 #[.slice A n c] w fun e w' =>
      e = .returned (.slice (some ⟨w.heap.size, 0, none⟩) n (n + 3)) ∧ RoomB w' w.heap.size bs ∧ Below w.heap.size w w' := by
  have hmk := fun W => make_bytes n (n + 3) (by omega) (by omega) W
  have hl := h.1
  have HR := Lib.hid h
  clear h
  have e2 : ((n + 3 : Nat) : Int) = (n : Int) + 3 := by omega
  rw [e2] at hmk
  clear e2
  have HL := Lib.hid hl
  clear hl
  have hnn : (n : Int) + 3 ≤ 140737488355323 := by omega
  go_enter Try.func27, Try.ntmps27
  go_wp2_with ((with_reducible refine wpList_copyin (o := ⟨some 13, _, _, _, _, _⟩) rfl (.tmp 11) (.tmp 12) rfl w.heap.size n _ _ A rfl rfl B bs (HR.out.below (((Below.refl _ _).alloc (Nat.le_refl _) _).mono hB)) (zrow (n + 3)) (Blk.new w _ _) (by rw [zrow_length]; omega) w.heap.size w ((Below.refl _ _).alloc (Nat.le_refl _) _) (Nat.le_refl _) ?_); intro w1 hb1 hbel1; obtain ⟨cn, cn1, cn2⟩ := roomy_cell w1 w.heap.size bs n HL.out hb1.out; have fn := hb1.out.frozen n; have fn1 := hb1.out.frozen (n + 1); have fn2 := hb1.out.frozen (n + 2); have hs1 := hbel1.size)
  go_ret
  refine ⟨rfl, ?_, ((hbel1.setCell (p := ⟨w.heap.size, n, none⟩) (Nat.le_refl _) _).setCell (p := ⟨w.heap.size, n + 1, none⟩) (Nat.le_refl _) _).setCell (p := ⟨w.heap.size, n + 2, none⟩) (Nat.le_refl _) _⟩
  have := ((hb1.out.set1 n (.int .u8 7)).set1 (n + 1) (.int .u8 8)).set1 (n + 2) (.int .u8 9)
  rw [roomy_cells bs n HL.out] at this
  exact this

set_option maxRecDepth 100000 in
theorem left_yes (g n c2 B2 : Nat) (A2 : Option Addr) (bs : List UInt8) (w : World) (h1 : RoomB w g bs) (h2 : RB w B2 A2 n bs) (hB2 : B2 ≤ w.heap.size) (hn : n ≤ 1000000000000) :
    Calls Try.prog 28 #[.slice (some ⟨g, 0, none⟩) n (n + 3), .slice A2 n c2] w fun e w' => e = .returned (.bool true) ∧ Below w.heap.size w w' := by
  have hl := h2.1
  have hgl := Blk.lt h1
  have H1 := Lib.hid h1
  have H2 := Lib.hid h2
  have HL := Lib.hid hl
  clear h1 h2 hl
  go_enter Try.func28, Try.ntmps28
  go_wp2
  go_loopw [5] (fun i wr => ∃ j : Nat, j ≤ n ∧ i = .int .i64 j ∧ Below w.heap.size w wr) (fun i _ => n - (intOf i).toNat)
  case atStart => exact ⟨0, by omega, rfl, Below.refl _ _⟩
  case round =>
    obtain ⟨j, hj, rfl, hbel⟩ := hrel
    have HBE := Lib.hid hbel
    have hroom : RoomB wr g bs := Blk.below H1.out hbel hgl
    obtain ⟨hrb, cn, cn1, cn2⟩ := hroom.holds HL.out
    have h2 := (H2.out.mono hB2).below hbel
    clear hbel hroom
    by_cases hlt : j < n
    · obtain ⟨g1, o1, hA1, _, kk1⟩ := hrb.2 (by omega)
      obtain ⟨g2, o2, rfl, _, kk2⟩ := h2.2 (by omega)
      have hjl : j < bs.length := by rw [HL.out]; exact hlt
      injection hA1 with hA1
      injection hA1 with e1 e2
      have k1 := kk1 j hjl
      have k2 := kk2 j hjl
      clear kk1 kk2
      rw [← e1, ← e2, Nat.zero_add] at k1
      obtain ⟨x, hx⟩ : ∃ x, x = bs[j] := ⟨_, rfl⟩
      rw [← hx] at k1 k2
      have hxx : ((x.toNat : Int) != (x.toNat : Int)) = false := by simp
      have hj0 : (0 : Int) ≤ j := by omega
      have hj1 : (j : Int) < n := by omega
      clear e1 e2 hrb h2 hx
      go_wp2
      go_quiet (fail)
      go_wp2
      go_roundw
      case rel => exact ⟨j + 1, by omega, by go_num, below_drewN HBE.out nq⟩
      case measure => simp [intOf]; omega
    · obtain rfl : j = n := by omega
      clear hrb h2
      go_wp2
      go_ret
      exact ⟨rfl, HBE.out⟩
end Go.Proofs.Ytmdgopclcdmenaa
