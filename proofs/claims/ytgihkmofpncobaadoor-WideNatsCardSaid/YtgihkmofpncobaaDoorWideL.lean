/- The contracts of the law's wakes, same, number. -/
import Derived.Test.YtgihkmofpncobaaDoorNatO
import Derived.Test.YtgihkmofpncobaaDoorText
import Derived.Test.YtgihkmofpncobaaDoorParse
namespace Go.Proofs.YtgihkmofpncobaaDoor
open Go.RowKit
set_option linter.unusedSimpArgs false
set_option linter.unusedVariables false

theorem ta_eno (n : Int) (w : World) : (Instr.typeAssert (enoV n) 44 53 true).run Tryd.prog w = .ok (.tuple #[.int .i64 n, .bool true]) w := by kernel_rfl
theorem number_yes (n : Int) (w : World) :
    Calls Tryd.prog 32 #[enoV n, .int .i64 n] w fun e w' => e = .returned (.bool true) ∧ w = w' := by
  have ta := fun w => ta_eno n w
  have h1 : (n == n) = true := by simp
  go_enter Tryd.func32, Tryd.ntmps32
  go_wp2
  go_ret
  exact ⟨rfl, rfl⟩

theorem parse_dtext (x : Nat) (w : World) (hx : x < 10 ^ 100000) : Calls Tryd.prog 11 #[.string ⟨(dtext x).toArray⟩] w (NatB x w) := by
  have h := parse_ok (dtext x) w (Nat.le_trans (dtext_len hx (by decide)) (by decide)) (dtext_ne x) (dtext_digits x)
  rw [dtext_val] at h
  exact h

theorem parse12 (w : World) : Calls Tryd.prog 11 #[.string ⟨#[49, 50]⟩] w (NatE 12 w) := by
  have h := parse_ok [49, 50] w (by decide) (by decide) (by decide)
  have hd : dval [49, 50] = 12 := by decide
  rw [hd] at h
  refine h.mono fun e w' h1 => ?_
  unfold NatB at h1
  rwa [if_pos (by decide)] at h1
theorem mul15 (w : World) : Calls Tryd.prog 12 #[.int .u64 3, .int .u64 5] w fun e w' => e = .returned (.agg #[.int .u64 0, .int .u64 15]) ∧ Below w.heap.size w w' :=
  mul_pair 3 5 (by decide) (by decide) w

set_option maxRecDepth 100000 in
theorem wakes_yes (w : World) :
    Calls Tryd.prog 4 #[] w fun e w' => e = .returned (.bool true) ∧ Below w.heap.size w w' := by
  go_enter Tryd.func4, Tryd.ntmps4
  go_wp2_with fail
  refine (parse12 _).mono ?_
  rintro e w1 ⟨v, rfl, hv, hb1⟩
  have HT := Lib.hid (fun W hb => text_nat v 12 W (hv.below hb) (by decide))
  have h12 : dtext 12 = [49, 50] := by decide +kernel
  rw [h12] at HT
  obtain ⟨A, n, c, rfl, _⟩ := hv
  have HB1 := Lib.hid hb1
  clear hb1 h12
  go_wp2_with fail
  refine (HT.out _ (by go_grown)).mono ?_
  rintro e w2 ⟨rfl, hb2⟩
  have HB2 := Lib.hid (keepb (HB1.out.alloc HB1.out.size _) hb2)
  clear hb2
  go_wp2_with fail
  refine (mul15 _).mono ?_
  rintro e w3 ⟨rfl, hb3⟩
  have HB3 := Lib.hid (keepb HB2.out hb3)
  clear hb3
  go_wp2_with fail
  go_ret
  exact ⟨rfl, HB3.out⟩

end Go.Proofs.YtgihkmofpncobaaDoor
