/- The contract of the law's nat. -/
import Derived.Test.YtnghcpgdfkchdaaDoorWideM
import Derived.Deep.DrawnRows
namespace Go.Proofs.YtnghcpgdfkchdaaDoor
open Go.RowKit
attribute [local go_sem ↓] Go.wp_at_zero Go.wp_at_succ
set_option linter.unusedSimpArgs false
set_option linter.unusedVariables false

theorem parse_small (x : Nat) (w : World) (hx : x < tpow 900) : Calls Tryd.prog 19 #[.string ⟨(dtext x).toArray⟩] w (NatE x w) := by
  have h := parse_ok (dtext x) w (Nat.le_trans (tpow_dtext hx (by decide)) (by decide)) (dtext_ne x) (dtext_digits x)
  rw [dtext_val] at h
  refine h.mono fun e w' h1 => ?_
  unfold NatB at h1
  rwa [if_pos (Nat.le_trans (tpow_blen hx) (by decide))] at h1

theorem NatW.drew {w : World} {v : Value} {x : Nat} (h : NatW w v x) : NatW w.drew v x := h.below ⟨rfl, rfl, rfl, Nat.le_refl _, fun _ _ => rfl⟩
/-- A number of at most 900 digits, and true. -/
def NatT (w : World) (e : Ending) (w' : World) : Prop := ∃ v x, e = .returned (.tuple #[v, .bool true]) ∧ NatW w' v x ∧ x < tpow 900 ∧ Below w.heap.size w w'

set_option maxRecDepth 100000 in
theorem nat_any (s : List UInt8) (w : World) (hs : s.length ≤ 1000000000000000) :
    Calls Tryd.prog 36 #[.string ⟨s.toArray⟩] w (NatT w) := by
  have HD := Lib.hid (fun W => digits_any s W hs)
  go_enter Tryd.func36, Tryd.ntmps36
  go_wp2_with fail
  refine (HD.out _).mono ?_
  rintro e w1 ⟨x, rfl, hx, hb1⟩
  have HP := Lib.hid (fun W => parse_small x W hx)
  have HX := Lib.hid hx
  have HB1 := Lib.hid (keepb (below_new w (.cells #[.slice none 0 0] 42)) hb1)
  have HBK1 : Hid (Blk w1 w.heap.size 42 #[.slice none 0 0]) := (Blk.new w _ _).below hb1 (by simp)
  clear hx hb1
  generalize dtext x = t at *
  go_wp2_with fail
  refine (HP.out _).mono ?_
  rintro e w2 ⟨v, rfl, hv, hb2⟩
  have HB2 := Lib.hid (keepb HB1.out hb2)
  have HBK2 := Lib.hid (HBK1.out.below hb2 HBK1.out.lt)
  have HV := Lib.hid hv
  obtain ⟨A, n, c, rfl, _⟩ := hv
  have c0 := HBK2.out.cell 0
  have f0 := HBK2.out.frozen 0
  have hz := HBK2.out.lt
  simp at c0
  clear hb2
  have hp := HBK2.out.put (i := 0) (by simp)
  go_wp2_with fail
  go_region
  all_goals
    go_wp2
    have hv3 := (HV.out.set HBK2.out (by decide) (.slice A n c) (i := 0)).below (below_new _ (.cells #[.slice A n c] 42))
    have hb3 := (((HB2.out.setCell (p := ⟨w.heap.size, 0, none⟩) (by simp) (.slice A n c)).alloc (by have := HB2.out.size; simpa [World.setCell] using this) (.cells #[.slice A n c] 42)))
    exact bodyPost_ret (v := .tuple #[.agg #[.slice A n c], .bool true]) (by simp [results, Tryd.results36, go_sem, hp, hz]) rfl ⟨_, x, rfl, hv3.drew, HX.out, hb3.drew⟩
end Go.Proofs.YtnghcpgdfkchdaaDoor
