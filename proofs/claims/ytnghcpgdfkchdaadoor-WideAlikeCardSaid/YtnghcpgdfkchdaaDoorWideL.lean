/- The contracts of the law's wakes, same, number. -/
import Derived.Test.YtnghcpgdfkchdaaDoorNatD
import Derived.Test.YtnghcpgdfkchdaaDoorText
import Derived.Test.YtnghcpgdfkchdaaDoorParse
namespace Go.Proofs.YtnghcpgdfkchdaaDoor
open Go.RowKit
set_option linter.unusedSimpArgs false
set_option linter.unusedVariables false

theorem ta_eno (n : Int) (w : World) : (Instr.typeAssert (enoV n) 26 35 true).run Tryd.prog w = .ok (.tuple #[.int .i64 n, .bool true]) w := by kernel_rfl
theorem number_yes (n : Int) (w : World) :
    Calls Tryd.prog 15 #[enoV n, .int .i64 n] w fun e w' => e = .returned (.bool true) ∧ w = w' := by
  have ta := fun w => ta_eno n w
  have h1 : (n == n) = true := by simp
  go_enter Tryd.func15, Tryd.ntmps15
  go_wp2
  go_ret
  exact ⟨rfl, rfl⟩

theorem parse_dtext (x : Nat) (w : World) (hx : x < 10 ^ 100000) : Calls Tryd.prog 19 #[.string ⟨(dtext x).toArray⟩] w (NatB x w) := by
  have h := parse_ok (dtext x) w (Nat.le_trans (dtext_len hx (by decide)) (by decide)) (dtext_ne x) (dtext_digits x)
  rw [dtext_val] at h
  exact h

theorem parse12 (w : World) : Calls Tryd.prog 19 #[.string ⟨#[49, 50]⟩] w (NatE 12 w) := by
  have h := parse_ok [49, 50] w (by decide) (by decide) (by decide)
  have hd : dval [49, 50] = 12 := by decide
  rw [hd] at h
  refine h.mono fun e w' h1 => ?_
  unfold NatB at h1
  rwa [if_pos (by decide)] at h1
theorem mul15 (w : World) : Calls Tryd.prog 27 #[.int .u64 3, .int .u64 5] w fun e w' => e = .returned (.agg #[.int .u64 0, .int .u64 15]) ∧ Below w.heap.size w w' :=
  mul_pair 3 5 (by decide) (by decide) w

set_option maxRecDepth 100000 in
theorem wakes_yes (w : World) :
    Calls Tryd.prog 16 #[] w fun e w' => e = .returned (.bool true) ∧ Below w.heap.size w w' := by
  go_enter Tryd.func16, Tryd.ntmps16
  go_wp2_with fail
  refine (parse12 _).mono ?_
  rintro e w1 ⟨v, rfl, hv, hb1⟩
  have HT := Lib.hid (fun W hb => text_nat v 12 W (hv.below hb) (by decide))
  have h12 : dtext 12 = [49, 50] := by decide +kernel
  rw [h12] at HT
  obtain ⟨A, n, c, rfl, _⟩ := hv
  have HB1 := Lib.hid hb1
  clear hb1 h12
  go_wp2_with fail
  refine (HT.out _ (by go_grown)).mono ?_
  rintro e w2 ⟨rfl, hb2⟩
  have HB2 := Lib.hid (keepb (HB1.out.alloc HB1.out.size _) hb2)
  clear hb2
  go_wp2_with fail
  refine (mul15 _).mono ?_
  rintro e w3 ⟨rfl, hb3⟩
  have HB3 := Lib.hid (keepb HB2.out hb3)
  clear hb3
  go_wp2_with fail
  go_ret
  exact ⟨rfl, HB3.out⟩

set_option maxRecDepth 100000 in
set_option maxHeartbeats 4000000 in
theorem same_yes (v u : Value) (x : Nat) (w : World) (hv : NatW w v x) (hu : NatW w u x) (hx : blen x ≤ 800000) :
    Calls Tryd.prog 21 #[v, u] w fun e w' => e = .returned (.bool true) ∧ Below w.heap.size w w' := by
  have HV := Lib.hid hv
  have HU := Lib.hid hu
  obtain ⟨A, n, c, rfl, _⟩ := hv
  obtain ⟨B, m, d, rfl, _⟩ := hu
  have hc0 : cmpI x x = 0 := by unfold cmpI; rw [if_pos rfl]
  have HC := Lib.hid (fun W hb => cmp_nat _ _ x x W (HV.out.below hb) (HU.out.below hb) (by omega) (by omega))
  rw [hc0] at HC
  have HTV := Lib.hid (fun W hb => text_nat _ x W (HV.out.below hb) (by omega))
  have HTU := Lib.hid (fun W hb => text_nat _ x W (HU.out.below hb) (by omega))
  clear hc0
  have htt : (dtext x == dtext x) = true := by simp
  generalize dtext x = t at *
  go_enter Tryd.func21, Tryd.ntmps21
  go_wp2_with fail
  obtain ⟨W0, hW0⟩ : ∃ W0, W0 = (w.alloc (.cells #[.slice A n c] 42)).alloc (.cells #[.slice B m d] 42) := ⟨_, rfl⟩
  have HB0 : Hid (Below w.heap.size w W0) := by rw [hW0]; show Below _ _ _; go_grown
  have hsz : W0.heap.size = w.heap.size + 1 + 1 := by rw [hW0]; simp
  have ca : W0.cell? ⟨w.heap.size, 0, none⟩ = some (.slice A n c) := by rw [hW0]; simp
  have cb : W0.cell? ⟨w.heap.size + 1, 0, none⟩ = some (.slice B m d) := by rw [hW0]; simp
  rw [← hW0]
  have hz1 : w.heap.size < W0.heap.size := by omega
  have hz2 : w.heap.size + 1 < W0.heap.size := by omega
  have hbr : Below W0.heap.size W0 W0 := Below.refl _ _
  clear hW0 hsz
  go_region_held3 (fun w' => w'.cell? ⟨w.heap.size, 0, none⟩ = some (.slice A n c) ∧ w'.cell? ⟨w.heap.size + 1, 0, none⟩ = some (.slice B m d) ∧ Below W0.heap.size W0 w')
    (first
      | (go_keep; done)
      | (go_split_ands; exact s_call (by assumption) (by assumption) (by assumption) hz1 hz2 hbn)
      | (go_split_ands; exact s_drew (by assumption) (by assumption) (by assumption)))
    (first
      | (go_at_call 45; go_split_ands; refine (HC.out _ (keepb HB0.out (by assumption))).mono ?_; rintro e w' ⟨rfl, hbn⟩)
      | (go_at_call_of 20 (Value.agg #[Value.slice A n c]); go_split_ands; refine (HTV.out _ (keepb HB0.out (by assumption))).mono ?_; rintro e w' ⟨rfl, hbn⟩)
      | (go_at_call_of 20 (Value.agg #[Value.slice B m d]); go_split_ands; refine (HTU.out _ (keepb HB0.out (by assumption))).mono ?_; rintro e w' ⟨rfl, hbn⟩))
  go_split_ands
  have hbw : Below W0.heap.size W0 w' := by assumption
  have HBW := Lib.hid (keepb HB0.out hbw)
  clear hbw
  go_wp2_with fail
  go_ret
  exact ⟨rfl, HBW.out⟩
end Go.Proofs.YtnghcpgdfkchdaaDoor
