/- The contracts of strings.Builder's WriteRune and String. -/
import Derived.Test.YtmdgopclcdmenaaUtfSB
namespace Go.Proofs.Ytmdgopclcdmenaa
open Go.RowKit Go.Shelf
set_option linter.unusedSimpArgs false
set_option linter.unusedVariables false

theorem ret_tup {a b : Int} (h : a = b) : Ending.returned (.tuple #[.int .i64 a, .nilIface]) = .returned (.tuple #[.int .i64 b, .nilIface]) := by rw [h]
theorem runeCells_enc (r : Nat) (h : Scal r) : Lib.runeCells (r : Int) = (enc r).map bv := by
  have hs : r < 1114112 := by unfold Scal at h; omega
  rw [enc_cells r h]
  unfold Lib.runeCells Lib.encodeRuneZ
  unfold Scal at h
  by_cases h1 : r < 128
  · rw [if_pos h1, if_pos (by omega)]; rfl
  · by_cases h2 : r < 2048
    · rw [if_neg h1, if_pos h2, if_neg (by omega), if_pos (by omega)]; rfl
    · by_cases h3 : r < 65536
      · rw [if_neg h1, if_neg h2, if_pos h3, if_neg (by omega), if_neg (by omega), if_pos (by omega)]; rfl
      · rw [if_neg h1, if_neg h2, if_neg h3, if_neg (by omega), if_neg (by omega), if_neg (by omega), if_pos (by omega)]; rfl

set_option maxRecDepth 100000 in
set_option maxHeartbeats 1000000 in
theorem writeRune (base b : Nat) (bs : List UInt8) (r : Nat) (w : World) (h : SB w base b bs) (hr : Scal r) (hlen : bs.length + 4 ≤ 140737488355328) (hB : base ≤ w.heap.size) :
    Calls Try.prog 62 #[.pointer (some ⟨b, 0, none⟩), .int .i32 r] w fun e w' => e = .returned (.tuple #[.int .i64 (enc r).length, .nilIface]) ∧ SB w' base b (bs ++ enc r) ∧ Below base w w' := by
  obtain ⟨hb, p, v, hp, hk, ho⟩ := h
  have hs : r < 1114112 := by unfold Scal at hr; omega
  obtain ⟨A, c, rfl, hc⟩ := own_shape ho
  have hel := enc_le r
  have hA := fun W (hW : W.ownsRow base 5 1 (.slice A bs.length c) bs.length (bs.map bv)) (hBW : base ≤ W.heap.size) => Any.utf8_AppendRune_plain lays242 (by kernel_rfl) base (.slice A bs.length c) bs.length (bs.map bv) (r : Int) (by omega) (by omega) W hW hlen hBW
  rw [runeCells_enc r hr] at hA
  have HA := Lib.hid hA
  have HO := Lib.hid ho
  have hne : (Value.slice A bs.length c).ownBlock ≠ some b := own_apart ho hk (by decide)
  have HNE := Lib.hid hne
  clear hA ho hr hne
  rcases hp with rfl | rfl
  · have c0 := hk.cell 0
    have c1 := hk.cell 1
    have f0 := hk.frozen 0
    have f1 := hk.frozen 1
    have hsh := shape_blk hk
    have HC := Lib.hid (cc_fresh b w c0 hsh f0)
    have HK := Lib.hid hk
    clear hsh hk
    go_enter Try.func62, Try.ntmps62
    go_wp2_with fail
    refine HC.out.mono ?_
    rintro e w1 ⟨rfl, rfl⟩
    have hOW := HO.out.kept (row := some b) (w' := w.setCell ⟨b, 0, none⟩ (.pointer (some ⟨b, 0, none⟩))) (But.setCell (But.refl w.heap.size b w) (.inl rfl) _).grownBy (.inr HNE.out)
    have hKW := HK.out.set1 0 (.pointer (some ⟨b, 0, none⟩))
    have hBW : base ≤ (w.setCell ⟨b, 0, none⟩ (.pointer (some ⟨b, 0, none⟩))).heap.size := by simpa using hB
    go_wp2_with fail
    refine (HA.out _ hOW hBW).mono ?_
    rintro e w2 ⟨v', rfl, ho2, o2, hg2⟩
    have hg : (w.setCell ⟨b, 0, none⟩ (.pointer (some ⟨b, 0, none⟩))).grownBy w2 (Value.slice A bs.length c).ownBlock := grown_alloc hg2 (fun k hk => (hOW.lt k hk).2)
    have hk2 := hKW.grown hg (fun h => HNE.out h.symm)
    obtain ⟨A2, c2, rfl, hc2⟩ := own_shape ho2
    have d1 := hk2.cell 1
    have g1 := hk2.frozen 1
    have HK2 := Lib.hid hk2
    have HO2 := Lib.hid ho2
    have HG := Lib.hid hg
    have hll : bs.length + ((enc r).map bv).length = bs.length + (enc r).length := by simp
    have HLL := Lib.hid hll
    clear hk2 ho2 hg hg2 hll
    rw [HLL.out] at HO2 ⊢
    go_wp2_with fail
    go_ret2
    have hk3 := HK2.out.set1 1 (.slice A2 (bs.length + (enc r).length) c2)
    have hne2 : (Value.slice A2 (bs.length + (enc r).length) c2).ownBlock ≠ some b := own_apart HO2.out HK2.out (by decide)
    have ho3 := HO2.out.kept (row := some b) (w' := w2.setCell ⟨b, 1, none⟩ (.slice A2 (bs.length + (enc r).length) c2)) (But.setCell (But.refl w2.heap.size b w2) (.inl rfl) _).grownBy (.inr hne2)
    refine ⟨?_, ⟨hb, _, _, .inr rfl, hk3, ?_⟩, ((((Below.refl base w).setCell (p := ⟨b, 0, none⟩) hb _).grown HG.out (by simpa using hB) (fun k hk => (hOW.lt k hk).1)).setCell (p := ⟨b, 1, none⟩) hb _)⟩
    · exact ret_tup (by omega)
    · rw [List.length_append, List.map_append]; exact ho3
  · have c0 := hk.cell 0
    have c1 := hk.cell 1
    have f0 := hk.frozen 0
    have f1 := hk.frozen 1
    have HC := Lib.hid (cc_used b w c0)
    have HK := Lib.hid hk
    clear hk
    go_enter Try.func62, Try.ntmps62
    go_wp2_with fail
    refine HC.out.mono ?_
    rintro e w1 ⟨rfl, rfl⟩
    go_wp2_with fail
    refine (HA.out _ HO.out hB).mono ?_
    rintro e w2 ⟨v', rfl, ho2, o2, hg2⟩
    have hg : w.grownBy w2 (Value.slice A bs.length c).ownBlock := grown_alloc hg2 (fun k hk => (HO.out.lt k hk).2)
    have hk2 := HK.out.grown hg (fun h => HNE.out h.symm)
    obtain ⟨A2, c2, rfl, hc2⟩ := own_shape ho2
    have d1 := hk2.cell 1
    have g1 := hk2.frozen 1
    have HK2 := Lib.hid hk2
    have HO2 := Lib.hid ho2
    have HG := Lib.hid hg
    have hll : bs.length + ((enc r).map bv).length = bs.length + (enc r).length := by simp
    have HLL := Lib.hid hll
    clear hk2 ho2 hg hg2 hll
    rw [HLL.out] at HO2 ⊢
    go_wp2_with fail
    go_ret2
    have hk3 := HK2.out.set1 1 (.slice A2 (bs.length + (enc r).length) c2)
    have hne2 : (Value.slice A2 (bs.length + (enc r).length) c2).ownBlock ≠ some b := own_apart HO2.out HK2.out (by decide)
    have ho3 := HO2.out.kept (row := some b) (w' := w2.setCell ⟨b, 1, none⟩ (.slice A2 (bs.length + (enc r).length) c2)) (But.setCell (But.refl w2.heap.size b w2) (.inl rfl) _).grownBy (.inr hne2)
    refine ⟨?_, ⟨hb, _, _, .inr rfl, hk3, ?_⟩, (((Below.refl base w).grown HG.out hB (fun k hk => (HO.out.lt k hk).1)).setCell (p := ⟨b, 1, none⟩) hb _)⟩
    · exact ret_tup (by omega)
    · rw [List.length_append, List.map_append]; exact ho3

theorem builderString (base b : Nat) (bs : List UInt8) (w : World) (h : SB w base b bs) (hB : base ≤ w.heap.size) :
    Calls Try.prog 63 #[.pointer (some ⟨b, 0, none⟩)] w fun e w' => e = .returned (.string ⟨bs.toArray⟩) ∧ Below base w w' := by
  obtain ⟨hb, p, v, hp, hk, ho⟩ := h
  have hbc : Lib.byteCells bs = bs.map bv := rfl
  have hne : v.ownBlock ≠ some b := own_apart ho hk (by decide)
  refine Any.Builder_String_any lays169 Builder_Extra_169 base b bs w ?_ hB
  rw [hbc]
  rcases hp with rfl | rfl
  · exact .inl ⟨hb, v, hk, by rw [List.length_map]; exact ho, hne⟩
  · exact .inr ⟨hb, v, hk, by rw [List.length_map]; exact ho, hne⟩
end Go.Proofs.Ytmdgopclcdmenaa
