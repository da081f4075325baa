/- The walk of WideSums. -/
import Derived.Test.YtnghcpgdfkchdaaDoorWideN
import Derived.Test.YtnghcpgdfkchdaaDoorNatH
namespace Go.Proofs.YtnghcpgdfkchdaaDoor.wideSums
open Go.RowKit
set_option linter.unusedSimpArgs false
set_option linter.unusedVariables false

theorem small {x y : Nat} (h : blen x ≤ y) (hy : y ≤ 8192) : blen x ≤ 8192 := Nat.le_trans h hy

set_option maxRecDepth 100000 in
set_option maxHeartbeats 8000000 in
theorem walk (a0 a1 a2 : ByteArray) (w : World) (w0 : a0.size ≤ maxLen) (s0 : a0.size ≤ 140737488351232) (w1 : a1.size ≤ maxLen) (s1 : a1.size ≤ 140737488351232) (w2 : a2.size ≤ maxLen) (s2 : a2.size ≤ 140737488351232) :
    Calls Tryd.prog 7 #[.string a0, .string a1, .string a2] w fun e w' => e = .returned (.bool true) ∧ Below w.heap.size w w' := by
  obtain ⟨l0, rfl⟩ : ∃ s : List UInt8, a0 = ⟨s.toArray⟩ := ⟨a0.data.toList, by simp⟩
  obtain ⟨l1, rfl⟩ : ∃ s : List UInt8, a1 = ⟨s.toArray⟩ := ⟨a1.data.toList, by simp⟩
  obtain ⟨l2, rfl⟩ : ∃ s : List UInt8, a2 = ⟨s.toArray⟩ := ⟨a2.data.toList, by simp⟩
  have s0 : l0.length ≤ 140737488351232 := s0
  have s1 : l1.length ≤ 140737488351232 := s1
  have s2 : l2.length ≤ 140737488351232 := s2
  clear w0 w1 w2
  have HS0 := Lib.hid (St.nil w)
  have HB0 := Lib.hid (Below.refl w.heap.size w)
  go_enter Tryd.func7, Tryd.ntmps7
  go_wp2_with fail
  refine (nat_any l0 _ (by omega)).mono ?_
  rintro e w1 ⟨v, x, rfl, hv, hx, hb⟩
  obtain ⟨A1, n1, c1, rfl, hl⟩ := hv
  have HXx := Lib.hid (tpow_blen hx)
  have HS1 := Lib.hid (HS0.out.step hb hl)
  have HB1 := Lib.hid ((keepb HB0.out hb).alloc (keepb HB0.out hb).size (.cells #[.slice A1 n1 c1] 42))
  clear hl hb
  clear hx
  have c0 := HS1.out.box 0 rfl
  go_wp2_with fail
  refine (nat_any l1 _ (by omega)).mono ?_
  rintro e w2 ⟨v, y, rfl, hv, hx, hb⟩
  obtain ⟨A2, n2, c2, rfl, hl⟩ := hv
  have HXy := Lib.hid (tpow_blen hx)
  have HS2 := Lib.hid (HS1.out.step hb hl)
  have HB2 := Lib.hid ((keepb HB1.out hb).alloc (keepb HB1.out hb).size (.cells #[.slice A2 n2 c2] 42))
  clear hl hb
  clear c0
  clear hx
  have c0 := HS2.out.box 0 rfl
  have c1 := HS2.out.box 1 rfl
  go_wp2_with fail
  refine (nat_any l2 _ (by omega)).mono ?_
  rintro e w3 ⟨v, z, rfl, hv, hx, hb⟩
  obtain ⟨A3, n3, c3, rfl, hl⟩ := hv
  have HXz := Lib.hid (tpow_blen hx)
  have HS3 := Lib.hid (HS2.out.step hb hl)
  have HB3 := Lib.hid ((keepb HB2.out hb).alloc (keepb HB2.out hb).size (.cells #[.slice A3 n3 c3] 42))
  clear hl hb
  clear c0 c1
  clear hx
  have c0 := HS3.out.box 0 rfl
  have c1 := HS3.out.box 1 rfl
  have c2 := HS3.out.box 2 rfl
  go_wp2_with fail
  refine (add_nat _ _ (x) (y) _ (HS3.out.nat 2 rfl (Below.refl _ _)) (HS3.out.nat 1 rfl (Below.refl _ _)) (Nat.le_trans HXx.out (by decide)) (Nat.le_trans HXy.out (by decide))).mono ?_
  rintro e w4 h
  obtain ⟨A4, n4, c4, rfl, hl, hb⟩ := h.small (small (blen_add HXx.out HXy.out) (by decide))
  clear h
  have HS4 := Lib.hid (HS3.out.step hb hl)
  have HB4 := Lib.hid ((keepb HB3.out hb).alloc (keepb HB3.out hb).size (.cells #[.slice A4 n4 c4] 42))
  clear hl hb
  clear c0 c1 c2
  have c0 := HS4.out.box 0 rfl
  have c1 := HS4.out.box 1 rfl
  have c2 := HS4.out.box 2 rfl
  have c3 := HS4.out.box 3 rfl
  go_wp2_with fail
  refine (add_nat _ _ (y) (x) _ (HS4.out.nat 2 rfl (Below.refl _ _)) (HS4.out.nat 3 rfl (Below.refl _ _)) (Nat.le_trans HXy.out (by decide)) (Nat.le_trans HXx.out (by decide))).mono ?_
  rintro e w5 h
  obtain ⟨A5, n5, c5, rfl, hl, hb⟩ := h.small (small (blen_add HXy.out HXx.out) (by decide))
  clear h
  rw [Nat.add_comm y x] at hl
  have HS5 := Lib.hid (HS4.out.step hb hl)
  have HB5 := Lib.hid ((keepb HB4.out hb).alloc (keepb HB4.out hb).size (.cells #[.slice A5 n5 c5] 42))
  clear hl hb
  clear c0 c1 c2 c3
  have c0 := HS5.out.box 0 rfl
  have c1 := HS5.out.box 1 rfl
  have c2 := HS5.out.box 2 rfl
  have c3 := HS5.out.box 3 rfl
  have c4 := HS5.out.box 4 rfl
  go_wp2_with fail
  refine (same_yes _ _ (x + y) _ (HS5.out.nat 1 rfl (Below.refl _ _)) (HS5.out.nat 0 rfl (Below.refl _ _)) (Nat.le_trans (blen_add HXx.out HXy.out) (by decide))).mono ?_
  rintro e w6 ⟨rfl, hb⟩
  have HS6 := Lib.hid (HS5.out.below hb)
  have HB6 := Lib.hid (keepb HB5.out hb)
  clear hb
  clear c0 c1 c2 c3 c4
  have c0 := HS6.out.box 0 rfl
  have c1 := HS6.out.box 1 rfl
  have c2 := HS6.out.box 2 rfl
  have c3 := HS6.out.box 3 rfl
  have c4 := HS6.out.box 4 rfl
  go_wp2_with fail
  refine (sub_nat _ _ (x + y) (y) _ (HS6.out.nat 1 rfl (Below.refl _ _)) (HS6.out.nat 3 rfl (Below.refl _ _)) (Nat.le_trans (blen_add HXx.out HXy.out) (by decide)) (Nat.le_trans HXy.out (by decide))).mono ?_
  rintro e w7 h
  obtain ⟨A7, n7, c7, rfl, hl, hb⟩ := h.yes (Nat.le_add_left _ _)
  clear h
  rw [Nat.add_sub_cancel] at hl
  have HS7 := Lib.hid (HS6.out.step hb hl)
  have HB7 := Lib.hid ((keepb HB6.out hb).alloc (keepb HB6.out hb).size (.cells #[.slice A7 n7 c7] 42))
  clear hl hb
  clear c0 c1 c2 c3 c4
  have c0 := HS7.out.box 0 rfl
  have c1 := HS7.out.box 1 rfl
  have c2 := HS7.out.box 2 rfl
  have c3 := HS7.out.box 3 rfl
  have c4 := HS7.out.box 4 rfl
  have c5 := HS7.out.box 5 rfl
  go_wp2_with fail
  refine (same_yes _ _ (x) _ (HS7.out.nat 0 rfl (Below.refl _ _)) (HS7.out.nat 5 rfl (Below.refl _ _)) (Nat.le_trans HXx.out (by decide))).mono ?_
  rintro e w8 ⟨rfl, hb⟩
  have HS8 := Lib.hid (HS7.out.below hb)
  have HB8 := Lib.hid (keepb HB7.out hb)
  clear hb
  clear c0 c1 c2 c3 c4 c5
  have c0 := HS8.out.box 0 rfl
  have c1 := HS8.out.box 1 rfl
  have c2 := HS8.out.box 2 rfl
  have c3 := HS8.out.box 3 rfl
  have c4 := HS8.out.box 4 rfl
  have c5 := HS8.out.box 5 rfl
  go_wp2_with fail
  refine (mul_nat _ _ (x) (z) _ (HS8.out.nat 5 rfl (Below.refl _ _)) (HS8.out.nat 3 rfl (Below.refl _ _)) (Nat.le_trans HXx.out (by decide)) (Nat.le_trans HXz.out (by decide))).mono ?_
  rintro e w9 h
  obtain ⟨A9, n9, c9, rfl, hl, hb⟩ := h.small (small (blen_times HXx.out HXz.out) (by decide))
  clear h
  have HS9 := Lib.hid (HS8.out.step hb hl)
  have HB9 := Lib.hid ((keepb HB8.out hb).alloc (keepb HB8.out hb).size (.cells #[.slice A9 n9 c9] 42))
  clear hl hb
  clear c0 c1 c2 c3 c4 c5
  have c0 := HS9.out.box 0 rfl
  have c1 := HS9.out.box 1 rfl
  have c2 := HS9.out.box 2 rfl
  have c3 := HS9.out.box 3 rfl
  have c4 := HS9.out.box 4 rfl
  have c5 := HS9.out.box 5 rfl
  have c6 := HS9.out.box 6 rfl
  go_wp2_with fail
  refine (mul_nat _ _ (z) (x) _ (HS9.out.nat 4 rfl (Below.refl _ _)) (HS9.out.nat 6 rfl (Below.refl _ _)) (Nat.le_trans HXz.out (by decide)) (Nat.le_trans HXx.out (by decide))).mono ?_
  rintro e w10 h
  obtain ⟨A10, n10, c10, rfl, hl, hb⟩ := h.small (small (blen_times HXz.out HXx.out) (by decide))
  clear h
  rw [Nat.mul_comm z x] at hl
  have HS10 := Lib.hid (HS9.out.step hb hl)
  have HB10 := Lib.hid ((keepb HB9.out hb).alloc (keepb HB9.out hb).size (.cells #[.slice A10 n10 c10] 42))
  clear hl hb
  clear c0 c1 c2 c3 c4 c5 c6
  have c0 := HS10.out.box 0 rfl
  have c1 := HS10.out.box 1 rfl
  have c2 := HS10.out.box 2 rfl
  have c3 := HS10.out.box 3 rfl
  have c4 := HS10.out.box 4 rfl
  have c5 := HS10.out.box 5 rfl
  have c6 := HS10.out.box 6 rfl
  have c7 := HS10.out.box 7 rfl
  go_wp2_with fail
  refine (same_yes _ _ (x * z) _ (HS10.out.nat 1 rfl (Below.refl _ _)) (HS10.out.nat 0 rfl (Below.refl _ _)) (Nat.le_trans (blen_times HXx.out HXz.out) (by decide))).mono ?_
  rintro e w11 ⟨rfl, hb⟩
  have HS11 := Lib.hid (HS10.out.below hb)
  have HB11 := Lib.hid (keepb HB10.out hb)
  clear hb
  clear c0 c1 c2 c3 c4 c5 c6 c7
  have c0 := HS11.out.box 0 rfl
  have c1 := HS11.out.box 1 rfl
  have c2 := HS11.out.box 2 rfl
  have c3 := HS11.out.box 3 rfl
  have c4 := HS11.out.box 4 rfl
  have c5 := HS11.out.box 5 rfl
  have c6 := HS11.out.box 6 rfl
  have c7 := HS11.out.box 7 rfl
  go_wp2_with fail
  refine (mul_nat _ _ (y) (z) _ (HS11.out.nat 6 rfl (Below.refl _ _)) (HS11.out.nat 5 rfl (Below.refl _ _)) (Nat.le_trans HXy.out (by decide)) (Nat.le_trans HXz.out (by decide))).mono ?_
  rintro e w12 h
  obtain ⟨A12, n12, c12, rfl, hl, hb⟩ := h.small (small (blen_times HXy.out HXz.out) (by decide))
  clear h
  have HS12 := Lib.hid (HS11.out.step hb hl)
  have HB12 := Lib.hid ((keepb HB11.out hb).alloc (keepb HB11.out hb).size (.cells #[.slice A12 n12 c12] 42))
  clear hl hb
  clear c0 c1 c2 c3 c4 c5 c6 c7
  have c0 := HS12.out.box 0 rfl
  have c1 := HS12.out.box 1 rfl
  have c2 := HS12.out.box 2 rfl
  have c3 := HS12.out.box 3 rfl
  have c4 := HS12.out.box 4 rfl
  have c5 := HS12.out.box 5 rfl
  have c6 := HS12.out.box 6 rfl
  have c7 := HS12.out.box 7 rfl
  have c8 := HS12.out.box 8 rfl
  go_wp2_with fail
  refine (add_nat _ _ (x * z) (y * z) _ (HS12.out.nat 2 rfl (Below.refl _ _)) (HS12.out.nat 0 rfl (Below.refl _ _)) (Nat.le_trans (blen_times HXx.out HXz.out) (by decide)) (Nat.le_trans (blen_times HXy.out HXz.out) (by decide))).mono ?_
  rintro e w13 h
  obtain ⟨A13, n13, c13, rfl, hl, hb⟩ := h.small (small (blen_add (blen_times HXx.out HXz.out) (blen_times HXy.out HXz.out)) (by decide))
  clear h
  have HS13 := Lib.hid (HS12.out.step hb hl)
  have HB13 := Lib.hid ((keepb HB12.out hb).alloc (keepb HB12.out hb).size (.cells #[.slice A13 n13 c13] 42))
  clear hl hb
  clear c0 c1 c2 c3 c4 c5 c6 c7 c8
  have c0 := HS13.out.box 0 rfl
  have c1 := HS13.out.box 1 rfl
  have c2 := HS13.out.box 2 rfl
  have c3 := HS13.out.box 3 rfl
  have c4 := HS13.out.box 4 rfl
  have c5 := HS13.out.box 5 rfl
  have c6 := HS13.out.box 6 rfl
  have c7 := HS13.out.box 7 rfl
  have c8 := HS13.out.box 8 rfl
  have c9 := HS13.out.box 9 rfl
  go_wp2_with fail
  refine (mul_nat _ _ (x + y) (z) _ (HS13.out.nat 6 rfl (Below.refl _ _)) (HS13.out.nat 7 rfl (Below.refl _ _)) (Nat.le_trans (blen_add HXx.out HXy.out) (by decide)) (Nat.le_trans HXz.out (by decide))).mono ?_
  rintro e w14 h
  obtain ⟨A14, n14, c14, rfl, hl, hb⟩ := h.small (small (blen_times (blen_add HXx.out HXy.out) HXz.out) (by decide))
  clear h
  rw [Nat.add_mul] at hl
  have HS14 := Lib.hid (HS13.out.step hb hl)
  have HB14 := Lib.hid ((keepb HB13.out hb).alloc (keepb HB13.out hb).size (.cells #[.slice A14 n14 c14] 42))
  clear hl hb
  clear c0 c1 c2 c3 c4 c5 c6 c7 c8 c9
  have c0 := HS14.out.box 0 rfl
  have c1 := HS14.out.box 1 rfl
  have c2 := HS14.out.box 2 rfl
  have c3 := HS14.out.box 3 rfl
  have c4 := HS14.out.box 4 rfl
  have c5 := HS14.out.box 5 rfl
  have c6 := HS14.out.box 6 rfl
  have c7 := HS14.out.box 7 rfl
  have c8 := HS14.out.box 8 rfl
  have c9 := HS14.out.box 9 rfl
  have c10 := HS14.out.box 10 rfl
  go_wp2_with fail
  refine (same_yes _ _ (x * z + y * z) _ (HS14.out.nat 1 rfl (Below.refl _ _)) (HS14.out.nat 0 rfl (Below.refl _ _)) (Nat.le_trans (blen_add (blen_times HXx.out HXz.out) (blen_times HXy.out HXz.out)) (by decide))).mono ?_
  rintro e w15 ⟨rfl, hb⟩
  have HS15 := Lib.hid (HS14.out.below hb)
  have HB15 := Lib.hid (keepb HB14.out hb)
  clear hb
  clear c0 c1 c2 c3 c4 c5 c6 c7 c8 c9 c10
  have c0 := HS15.out.box 0 rfl
  have c1 := HS15.out.box 1 rfl
  have c2 := HS15.out.box 2 rfl
  have c3 := HS15.out.box 3 rfl
  have c4 := HS15.out.box 4 rfl
  have c5 := HS15.out.box 5 rfl
  have c6 := HS15.out.box 6 rfl
  have c7 := HS15.out.box 7 rfl
  have c8 := HS15.out.box 8 rfl
  have c9 := HS15.out.box 9 rfl
  have c10 := HS15.out.box 10 rfl
  go_wp2_with fail
  refine (wakes_yes _).mono ?_
  rintro e w16 ⟨rfl, hb⟩
  have HBE := Lib.hid (keepb HB15.out hb)
  clear hb
  clear c0 c1 c2 c3 c4 c5 c6 c7 c8 c9 c10
  go_wp2_with fail
  go_ret
  exact ⟨rfl, HBE.out⟩
end Go.Proofs.YtnghcpgdfkchdaaDoor.wideSums
