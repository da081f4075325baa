/- The walk of WideDivides. -/
import Derived.Test.YtnghcpgdfkchdaaDoorWideN
import Derived.Test.YtnghcpgdfkchdaaDoorNatK
namespace Go.Proofs.YtnghcpgdfkchdaaDoor.wideDivides
open Go.RowKit
set_option linter.unusedSimpArgs false
set_option linter.unusedVariables false

theorem small {x y : Nat} (h : blen x ≤ y) (hy : y ≤ 8192) : blen x ≤ 8192 := Nat.le_trans h hy
theorem len_zero (v : Value) (w : World) (hv : NatW w v 0) : Calls Tryd.prog 41 #[v] w fun e w' => e = .returned (.int .i64 0) ∧ Below w.heap.size w w' := len_nat v 0 w hv (by decide)
theorem natl_nil (w : World) : NatL w none 0 0 0 := ⟨[], IsF.nil _, rfl, RT.nil _ _, Nat.le_refl _⟩

set_option maxRecDepth 100000 in
set_option maxHeartbeats 8000000 in
theorem walk (a0 a1 : ByteArray) (w : World) (w0 : a0.size ≤ maxLen) (s0 : a0.size ≤ 140737488351232) (w1 : a1.size ≤ maxLen) (s1 : a1.size ≤ 140737488351232) :
    Calls Tryd.prog 9 #[.string a0, .string a1] w fun e w' => e = .returned (.bool true) ∧ Below w.heap.size w w' := by
  obtain ⟨l0, rfl⟩ : ∃ s : List UInt8, a0 = ⟨s.toArray⟩ := ⟨a0.data.toList, by simp⟩
  obtain ⟨l1, rfl⟩ : ∃ s : List UInt8, a1 = ⟨s.toArray⟩ := ⟨a1.data.toList, by simp⟩
  have s0 : l0.length ≤ 140737488351232 := s0
  have s1 : l1.length ≤ 140737488351232 := s1
  clear w0 w1
  have HS0 := Lib.hid (St.nil w)
  have HB0 := Lib.hid (Below.refl w.heap.size w)
  go_enter Tryd.func9, Tryd.ntmps9
  go_wp2_with fail
  refine (nat_any l0 _ (by omega)).mono ?_
  rintro e w1 ⟨v, x, rfl, hv, hx, hb⟩
  obtain ⟨A1, n1, c1, rfl, hl⟩ := hv
  have HXx := Lib.hid (tpow_blen hx)
  have HS1 := Lib.hid (HS0.out.step hb hl)
  have HB1 := Lib.hid ((keepb HB0.out hb).alloc (keepb HB0.out hb).size (.cells #[.slice A1 n1 c1] 42))
  clear hl hb
  clear hx
  have c0 := HS1.out.box 0 rfl
  go_wp2_with fail
  refine (nat_any l1 _ (by omega)).mono ?_
  rintro e w2 ⟨v, y, rfl, hv, hx, hb⟩
  obtain ⟨A2, n2, c2, rfl, hl⟩ := hv
  have HXy := Lib.hid (tpow_blen hx)
  have HS2 := Lib.hid (HS1.out.step hb hl)
  have HB2 := Lib.hid ((keepb HB1.out hb).alloc (keepb HB1.out hb).size (.cells #[.slice A2 n2 c2] 42))
  clear hl hb
  clear c0
  clear hx
  have c0 := HS2.out.box 0 rfl
  have c1 := HS2.out.box 1 rfl
  go_wp2_with fail
  rcases Nat.eq_zero_or_pos y with hy | hy
  · rw [hy] at HS2
    clear hy
    refine (div_zero _ _ x _ (HS2.out.nat 1 rfl (Below.refl _ _)) (HS2.out.nat 0 rfl (Below.refl _ _))).mono ?_
    rintro e w3 ⟨rfl, hb⟩
    have hl := natl_nil w3
    have hl2 := natl_nil w3
    have HS3 := Lib.hid (HS2.out.step2 hb hl hl2)
    have HB3 := Lib.hid (((keepb HB2.out hb).alloc (keepb HB2.out hb).size (.cells #[.slice none 0 0] 42)).alloc (Nat.le_trans (keepb HB2.out hb).size (below_new _ _).size) (.cells #[.slice none 0 0] 42))
    clear hl hl2 hb
    clear c0 c1
    have c0 := HS3.out.box 0 rfl
    have c1 := HS3.out.box 1 rfl
    have c2 := HS3.out.box 2 rfl
    have c3 := HS3.out.box 3 rfl
    go_wp2_with fail
    refine (len_zero _ _ (HS3.out.nat 2 rfl (Below.refl _ _))).mono ?_
    rintro e w4 ⟨rfl, hb⟩
    have HS4 := Lib.hid (HS3.out.below hb)
    have HB4 := Lib.hid (keepb HB3.out hb)
    clear hb
    clear c0 c1 c2 c3
    have c0 := HS4.out.box 0 rfl
    have c1 := HS4.out.box 1 rfl
    have c2 := HS4.out.box 2 rfl
    have c3 := HS4.out.box 3 rfl
    go_wp2_with fail
    refine (number_yes 13 _).mono ?_
    rintro e w5 ⟨rfl, rfl⟩
    go_wp2_with fail
    refine (len_zero _ _ (HS4.out.nat 1 rfl (Below.refl _ _))).mono ?_
    rintro e w5 ⟨rfl, hb⟩
    have HS5 := Lib.hid (HS4.out.below hb)
    have HB5 := Lib.hid (keepb HB4.out hb)
    clear hb
    clear c0 c1 c2 c3
    have c0 := HS5.out.box 0 rfl
    have c1 := HS5.out.box 1 rfl
    have c2 := HS5.out.box 2 rfl
    have c3 := HS5.out.box 3 rfl
    go_wp2_with fail
    refine (len_zero _ _ (HS5.out.nat 0 rfl (Below.refl _ _))).mono ?_
    rintro e w6 ⟨rfl, hb⟩
    have HS6 := Lib.hid (HS5.out.below hb)
    have HB6 := Lib.hid (keepb HB5.out hb)
    clear hb
    clear c0 c1 c2 c3
    have c0 := HS6.out.box 0 rfl
    have c1 := HS6.out.box 1 rfl
    have c2 := HS6.out.box 2 rfl
    have c3 := HS6.out.box 3 rfl
    go_wp2_with fail
    refine (wakes_yes _).mono ?_
    rintro e w7 ⟨rfl, hb⟩
    have HBE := Lib.hid (keepb HB6.out hb)
    clear hb
    clear c0 c1 c2 c3
    go_wp2_with fail
    go_ret
    exact ⟨rfl, HBE.out⟩
  · have HY := Lib.hid hy
    have hby : (((blen y : Nat) : Int) == 0) = false := by rw [beq_eq_false_iff_ne]; have := blen_pos (show y ≠ 0 by omega); omega
    have hcm : cmpI (x % y) y = -1 := by have := Nat.mod_lt x hy; unfold cmpI; rw [if_neg (by omega), if_pos this]
    have HCX := Lib.hid hcm
    clear hcm hy
    refine (div_nat _ _ x y _ (HS2.out.nat 1 rfl (Below.refl _ _)) (HS2.out.nat 0 rfl (Below.refl _ _)) (Nat.le_trans HXx.out (by decide)) (Nat.le_trans HXy.out (by decide)) HY.out).mono ?_
    rintro e w3 ⟨A3, n3, c3, B3, m3, d3, rfl, hl, hl2, hb⟩
    have HS3 := Lib.hid (HS2.out.step2 hb hl hl2)
    have HB3 := Lib.hid (((keepb HB2.out hb).alloc (keepb HB2.out hb).size (.cells #[.slice A3 n3 c3] 42)).alloc (Nat.le_trans (keepb HB2.out hb).size (below_new _ _).size) (.cells #[.slice B3 m3 d3] 42))
    clear hl hl2 hb
    clear c0 c1
    have c0 := HS3.out.box 0 rfl
    have c1 := HS3.out.box 1 rfl
    have c2 := HS3.out.box 2 rfl
    have c3 := HS3.out.box 3 rfl
    go_wp2_with fail
    refine (len_nat _ y _ (HS3.out.nat 2 rfl (Below.refl _ _)) (Nat.le_trans HXy.out (by decide))).mono ?_
    rintro e w4 ⟨rfl, hb⟩
    have HS4 := Lib.hid (HS3.out.below hb)
    have HB4 := Lib.hid (keepb HB3.out hb)
    clear hb
    clear c0 c1 c2 c3
    have c0 := HS4.out.box 0 rfl
    have c1 := HS4.out.box 1 rfl
    have c2 := HS4.out.box 2 rfl
    have c3 := HS4.out.box 3 rfl
    go_wp2_with fail
    have hcc := cmp_nat _ _ (x % y) y _ (HS4.out.nat 0 rfl (Below.refl _ _)) (HS4.out.nat 2 rfl (Below.refl _ _)) (Nat.le_trans (blen_mono (Nat.le_of_lt (Nat.mod_lt x HY.out))) (Nat.le_trans HXy.out (by decide))) (Nat.le_trans HXy.out (by decide))
    rw [HCX.out] at hcc
    have HCC := Lib.hid hcc
    clear hcc
    refine (HCC.out).mono ?_
    rintro e w5 ⟨rfl, hb⟩
    have HS5 := Lib.hid (HS4.out.below hb)
    have HB5 := Lib.hid (keepb HB4.out hb)
    clear hb
    clear c0 c1 c2 c3
    have c0 := HS5.out.box 0 rfl
    have c1 := HS5.out.box 1 rfl
    have c2 := HS5.out.box 2 rfl
    have c3 := HS5.out.box 3 rfl
    go_wp2_with fail
    refine (mul_nat _ _ (x / y) (y) _ (HS5.out.nat 1 rfl (Below.refl _ _)) (HS5.out.nat 2 rfl (Below.refl _ _)) (Nat.le_trans (blen_mono (Nat.div_le_self x y)) (Nat.le_trans HXx.out (by decide))) (Nat.le_trans HXy.out (by decide))).mono ?_
    rintro e w6 h
    obtain ⟨A6, n6, c6, rfl, hl, hb⟩ := h.small (Nat.le_trans (blen_mono (Nat.div_mul_le_self x y)) (Nat.le_trans HXx.out (by decide)))
    clear h
    have HS6 := Lib.hid (HS5.out.step hb hl)
    have HB6 := Lib.hid ((keepb HB5.out hb).alloc (keepb HB5.out hb).size (.cells #[.slice A6 n6 c6] 42))
    clear hl hb
    clear c0 c1 c2 c3
    have c0 := HS6.out.box 0 rfl
    have c1 := HS6.out.box 1 rfl
    have c2 := HS6.out.box 2 rfl
    have c3 := HS6.out.box 3 rfl
    have c4 := HS6.out.box 4 rfl
    go_wp2_with fail
    refine (add_nat _ _ (x / y * y) (x % y) _ (HS6.out.nat 0 rfl (Below.refl _ _)) (HS6.out.nat 1 rfl (Below.refl _ _)) (Nat.le_trans (blen_mono (Nat.div_mul_le_self x y)) (Nat.le_trans HXx.out (by decide))) (Nat.le_trans (blen_mono (Nat.le_of_lt (Nat.mod_lt x HY.out))) (Nat.le_trans HXy.out (by decide)))).mono ?_
    rintro e w7 h
    obtain ⟨A7, n7, c7, rfl, hl, hb⟩ := h.small (by rw [Nat.div_add_mod']; exact Nat.le_trans HXx.out (by decide))
    clear h
    rw [Nat.div_add_mod'] at hl
    have HS7 := Lib.hid (HS6.out.step hb hl)
    have HB7 := Lib.hid ((keepb HB6.out hb).alloc (keepb HB6.out hb).size (.cells #[.slice A7 n7 c7] 42))
    clear hl hb
    clear c0 c1 c2 c3 c4
    have c0 := HS7.out.box 0 rfl
    have c1 := HS7.out.box 1 rfl
    have c2 := HS7.out.box 2 rfl
    have c3 := HS7.out.box 3 rfl
    have c4 := HS7.out.box 4 rfl
    have c5 := HS7.out.box 5 rfl
    go_wp2_with fail
    refine (same_yes _ _ (x) _ (HS7.out.nat 0 rfl (Below.refl _ _)) (HS7.out.nat 5 rfl (Below.refl _ _)) (Nat.le_trans HXx.out (by decide))).mono ?_
    rintro e w8 ⟨rfl, hb⟩
    have HS8 := Lib.hid (HS7.out.below hb)
    have HB8 := Lib.hid (keepb HB7.out hb)
    clear hb
    clear c0 c1 c2 c3 c4 c5
    have c0 := HS8.out.box 0 rfl
    have c1 := HS8.out.box 1 rfl
    have c2 := HS8.out.box 2 rfl
    have c3 := HS8.out.box 3 rfl
    have c4 := HS8.out.box 4 rfl
    have c5 := HS8.out.box 5 rfl
    go_wp2_with fail
    refine (wakes_yes _).mono ?_
    rintro e w9 ⟨rfl, hb⟩
    have HBE := Lib.hid (keepb HB8.out hb)
    clear hb
    clear c0 c1 c2 c3 c4 c5
    go_wp2_with fail
    go_ret
    exact ⟨rfl, HBE.out⟩
end Go.Proofs.YtnghcpgdfkchdaaDoor.wideDivides
