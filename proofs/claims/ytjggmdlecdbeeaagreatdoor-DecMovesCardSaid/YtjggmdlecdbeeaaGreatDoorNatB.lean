/- Natural numbers as rows of words: the contracts of bounded, word, Of, times. -/
import Derived.Test.YtjggmdlecdbeeaaGreatDoorNatA
import Derived.Test.YtjggmdlecdbeeaaGreatDoorCopy
namespace Go.Proofs.YtjggmdlecdbeeaaGreatDoor
open Go.RowKit
set_option linter.unusedSimpArgs false
set_option linter.unusedVariables false

abbrev nilN : Value := .agg #[.slice none 0 0]
abbrev enoV (n : Int) : Value := .iface 37 (.int .i64 n)
/-- A number, and no error. -/
def NatE (x : Nat) (w : World) (e : Ending) (w' : World) : Prop := ∃ v, e = .returned (.tuple #[v, .nilIface]) ∧ NatW w' v x ∧ Below w.heap.size w w'
/-- No number, and an error's number. -/
def NatF (no : Int) (w : World) (e : Ending) (w' : World) : Prop := e = .returned (.tuple #[nilN, enoV no]) ∧ Below w.heap.size w w'
/-- A number alone. -/
def NatV (x : Nat) (w : World) (e : Ending) (w' : World) : Prop := ∃ v, e = .returned v ∧ NatW w' v x ∧ Below w.heap.size w w'
/-- A number, unless it has too many bits. -/
def NatB (x : Nat) (w : World) (e : Ending) (w' : World) : Prop := if blen x ≤ 8192 then NatE x w e w' else NatF 11 w e w'

set_option maxRecDepth 100000 in
theorem bounded_any (v : Value) (x : Nat) (w : World) (hv : NatW w v x) (hx : blen x ≤ 1000000) :
    Calls Tryz.prog 96 #[v] w (NatB x w) := by
  obtain ⟨A, n, c, rfl, hl⟩ := id hv
  have HV := Lib.hid hv
  clear hv hl
  have HL := Lib.hid (fun W hb => len_nat _ x W (HV.out.below hb) hx)
  by_cases h : blen x ≤ 8192
  · have t1 : decide ((8192 : Int) < (blen x : Nat)) = false := by simp; omega
    have t1' : decide (8192 < blen x) = false := by simp; omega
    have HP : Hid (NatB x w = NatE x w) := by funext e w'; unfold NatB; rw [if_pos h]
    rw [HP.out]
    clear h hx
    generalize blen x = b at *
    go_enter Tryz.func96, Tryz.ntmps96
    go_wp2_with fail
    refine (HL.out _ (by go_grown)).mono ?_
    rintro e w1 ⟨rfl, hb1⟩
    obtain ⟨kc, kf⟩ := bcell hb1
    have hz := hb1.size
    simp at hz
    have HBK : Hid (Blk w1 (w.heap.size + 1) 126 #[.slice none 0 0]) := (by have := Blk.new (w.alloc (.cells #[.slice A n c] 126)) 126 #[.slice none 0 0]; simp only [World.size_alloc] at this; exact this.below hb1 (by simp))
    have HB := Lib.hid hb1
    clear hb1
    have hp := HBK.out.put (i := 0) (by simp)
    go_wp2_with fail
    have hfin : ∀ u, Below w.heap.size w (w1.setCell ⟨w.heap.size + 1, 0, none⟩ u) := fun u => (keepb (show Below w.heap.size w _ by go_grown) HB.out).setCell (by simp) _
    exact bodyPost_ret (v := .tuple #[.agg #[.slice A n c], .nilIface]) (by simp [results, Tryz.results96, go_sem, hp]) rfl ⟨_, rfl, HV.out.below (hfin _), hfin _⟩
  · have t1 : decide ((8192 : Int) < (blen x : Nat)) = true := by simp; omega
    have t1' : decide (8192 < blen x) = true := by simp; omega
    have HP : Hid (NatB x w = NatF 11 w) := by funext e w'; unfold NatB; rw [if_neg h]
    rw [HP.out]
    clear h hx
    generalize blen x = b at *
    go_enter Tryz.func96, Tryz.ntmps96
    go_wp2_with fail
    refine (HL.out _ (by go_grown)).mono ?_
    rintro e w1 ⟨rfl, hb1⟩
    obtain ⟨kc, kf⟩ := bcell hb1
    have hz := hb1.size
    simp at hz
    have HBK : Hid (Blk w1 (w.heap.size + 1) 126 #[.slice none 0 0]) := (by have := Blk.new (w.alloc (.cells #[.slice A n c] 126)) 126 #[.slice none 0 0]; simp only [World.size_alloc] at this; exact this.below hb1 (by simp))
    have HB := Lib.hid hb1
    clear hb1
    have hp := HBK.out.put (i := 0) (by simp)
    go_wp2_with fail
    have hfin : ∀ u, Below w.heap.size w (w1.setCell ⟨w.heap.size + 1, 0, none⟩ u) := fun u => (keepb (show Below w.heap.size w _ by go_grown) HB.out).setCell (by simp) _
    exact bodyPost_ret (v := .tuple #[.agg #[.slice none 0 0], enoV 11]) (by simp [results, Tryz.results96, go_sem, hp]) rfl ⟨rfl, hfin _⟩

set_option maxRecDepth 100000 in
theorem word_nat (v : Value) (x i : Nat) (w : World) (hv : NatW w v x) (hi : i ≤ 1000000000000) :
    Calls Tryz.prog 122 #[v, .int .i64 (i : Int)] w fun e w' => e = .returned (wv (x / W64 ^ i % W64)) ∧ Below w.heap.size w w' := by
  obtain ⟨A, n, c, rfl, l, hf, hn, hr, hc⟩ := hv
  have HR := Lib.hid (hr.below (below_new w (.cells #[.slice A n c] 126)))
  rw [← hf.get i]
  clear hr hf
  by_cases h : i < n
  · obtain ⟨g, o, rfl, hl0⟩ := HR.out.cell i (by simp; omega)
    rw [List.getElem_map] at hl0
    have hlx : l.getD i 0 = l[i] := by simp [List.getD, show i < l.length by omega]
    rw [hlx]
    clear hlx
    generalize l[i] = y at *
    have t1 : decide (i < n) = true := by simp; omega
    have t1' : decide ((i : Int) < n) = true := by simp; omega
    have q : (i : Int) < n := by omega
    go_enter Tryz.func122, Tryz.ntmps122
    go_wp2_with fail
    go_ret
    exact ⟨rfl, by go_grown⟩
  · have hlx : l.getD i 0 = 0 := by simp [List.getD, show l.length ≤ i by omega]
    rw [hlx]
    have t1 : decide (i < n) = false := by simp; omega
    have t1' : decide ((i : Int) < n) = false := by simp; omega
    go_enter Tryz.func122, Tryz.ntmps122
    go_wp2_with fail
    go_ret
    exact ⟨rfl, by go_grown⟩

theorem fval_one (q x : Nat) : fval q [x] = x := by simp [fval]
set_option maxRecDepth 100000 in
theorem of_nat (x : Nat) (w : World) (hx : x < W64) :
    Calls Tryz.prog 76 #[wv x] w (NatV x w) := by
  have HM := Lib.hid (fun W A hr => made_any A 1 [x] W hr ((Figs.nil _).cons hx) (Nat.le_refl _) (by simp))
  have HX := Lib.hid hx
  clear hx
  go_enter Tryz.func76, Tryz.ntmps76
  go_wp2_with fail
  have hr := RT.fresh (w.alloc (.cells #[.slice none 0 0] 126)) 28 [wv x]
  simp only [World.size_alloc] at hr
  refine (HM.out _ _ hr).mono ?_
  rintro e w1 hm
  obtain ⟨v, rfl, hv, hb1⟩ := hm.nat hr (by simp)
  rw [fval_one] at hv
  obtain ⟨A, n, c, rfl, hl⟩ := id hv
  obtain ⟨kc, kf⟩ := bcell hb1
  have hz := hb1.size
  simp at hz
  have HBK : Hid (Blk w1 w.heap.size 126 #[.slice none 0 0]) := ((Blk.new w _ _).alloc _).below hb1 (by simp; omega)
  have HB := Lib.hid hb1
  have HV := Lib.hid hv
  clear hb1 hv hm hr hl
  have hp := HBK.out.put (i := 0) (by simp)
  go_wp2_with fail
  have hfin : ∀ u, Below w.heap.size w (w1.setCell ⟨w.heap.size, 0, none⟩ u) := fun u => (keepb (show Below w.heap.size w _ by go_grown) HB.out).setCell (by simp) _
  exact bodyPost_ret (v := .agg #[.slice A n c]) (by simp [results, Tryz.results76, go_sem, hp]) rfl ⟨_, rfl, HV.out.set HBK.out (by decide) _, hfin _⟩
end Go.Proofs.YtjggmdlecdbeeaaGreatDoor
