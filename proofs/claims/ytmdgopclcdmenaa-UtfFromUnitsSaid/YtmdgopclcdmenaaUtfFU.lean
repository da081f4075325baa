/- The contract of utf.FromUnits. -/
import Derived.Test.YtmdgopclcdmenaaUtfSC
import Derived.Test.YtmdgopclcdmenaaUtfFP
namespace Go.Proofs.Ytmdgopclcdmenaa
open Go.RowKit Go.Shelf
set_option linter.unusedSimpArgs false
set_option linter.unusedVariables false

/-- What a walk over units holds at place i. -/
def FU (U : List Nat) (i : Nat) (acc : List UInt8) : Prop := fuL U = (acc ++ (fuL (U.drop i)).1, (fuL (U.drop i)).2.map (· + i)) ∧ acc.length ≤ 4 * i
theorem FU.start (U : List Nat) : FU U 0 [] := by
  refine ⟨?_, by simp⟩
  rw [List.drop_zero, List.nil_append]
  cases h : fuL U with
  | mk a b => cases b <;> rfl
theorem enc_le4 (r : Nat) : (enc r).length ≤ 4 := by rw [enc_length]; (repeat' split) <;> omega
theorem FU.plain {U : List Nat} {i : Nat} {acc : List UInt8} (h : FU U i acc) (hi : i < U.length) (hs : ¬ surr U[i]) : FU U (i + 1) (acc ++ enc U[i]) := by
  obtain ⟨h1, h2⟩ := h
  refine ⟨?_, by have := enc_le4 U[i]; simp; omega⟩
  rw [h1, List.drop_eq_getElem_cons hi, fuL_plain _ _ hs]
  simp only [List.append_assoc, Option.map_map, Prod.mk.injEq, true_and]
  congr 1
  funext k; simp; omega
theorem FU.pair {U : List Nat} {i : Nat} {acc : List UInt8} (h : FU U i acc) (hi : i + 1 < U.length) (hs : surr (U[i]'(by omega))) (hl : ¬ lone (U[i]'(by omega)) U[i + 1]) : FU U (i + 2) (acc ++ enc (pairR (U[i]'(by omega)) U[i + 1])) := by
  obtain ⟨h1, h2⟩ := h
  refine ⟨?_, by have := enc_le4 (pairR (U[i]'(by omega)) U[i + 1]); simp; omega⟩
  rw [h1, List.drop_eq_getElem_cons (show i < U.length by omega), List.drop_eq_getElem_cons hi, fuL_pair _ _ _ hs hl]
  simp only [List.append_assoc, Option.map_map, Prod.mk.injEq, true_and]
  congr 1
  funext k; simp; omega
theorem FU.lone {U : List Nat} {i : Nat} {acc : List UInt8} (h : FU U i acc) (hi : i + 1 < U.length) (hs : surr (U[i]'(by omega))) (hl : lone (U[i]'(by omega)) U[i + 1]) : (fuL U).2 = some i := by
  rw [h.1, List.drop_eq_getElem_cons (show i < U.length by omega), List.drop_eq_getElem_cons hi, fuL_lone _ _ _ hs hl]
  simp
theorem FU.last {U : List Nat} {i : Nat} {acc : List UInt8} (h : FU U i acc) (hi : i < U.length) (h1 : i + 1 = U.length) (hs : surr U[i]) : (fuL U).2 = some i := by
  rw [h.1, List.drop_eq_getElem_cons hi, List.drop_of_length_le (by omega), fuL_last _ hs]
  simp
theorem FU.over {U : List Nat} {i : Nat} {acc : List UInt8} (h : FU U i acc) (hi : U.length ≤ i) : fuL U = (acc, none) := by
  rw [h.1, List.drop_of_length_le hi]
  simp [fuL]

/-- What FromUnits answers. -/
def fuV (U : List Nat) : Value := match fuL U with
  | (t, none) => .tuple #[.string ⟨t.toArray⟩, .nilIface]
  | (_, some i) => .tuple #[.string ⟨#[]⟩, spotE 32 i]
theorem fuV_none {U : List Nat} {t : List UInt8} (h : fuL U = (t, none)) : fuV U = .tuple #[.string ⟨t.toArray⟩, .nilIface] := by unfold fuV; rw [h]
theorem fuV_some {U : List Nat} {i : Nat} (h : (fuL U).2 = some i) : fuV U = .tuple #[.string ⟨#[]⟩, spotE 32 i] := by
  unfold fuV
  cases hf : fuL U with
  | mk a b => rw [hf] at h; simp only at h; subst h; rfl

set_option maxRecDepth 100000 in
set_option maxHeartbeats 4000000 in
theorem fromUnits (A : Option Addr) (c : Nat) (U : List Nat) (w : World) (hr : RV w w.heap.size A U.length (U.map uv_)) (h16 : ∀ x ∈ U, x < 65536) (hn : U.length ≤ 4294967296) (hc : U.length ≤ c) :
    Calls Try.prog 44 #[.slice A U.length c] w fun e w' => e = .returned (fuV U) ∧ Below w.heap.size w w' := by
  have HR := Lib.hid hr
  have H16 := Lib.hid h16
  clear hr h16
  go_enter Try.func44, Try.ntmps44
  go_wp2_with fail
  have HS := Lib.hid (SB.new w)
  have HB := Lib.hid ((Below.refl w.heap.size w).alloc (Nat.le_refl _) (.cells #[.pointer none, .slice none 0 0] 106))
  go_loopw [5] (fun k wr => ∃ (i : Nat) (acc : List UInt8), i ≤ U.length ∧ k = .int .i64 i ∧ FU U i acc ∧ SB wr w.heap.size w.heap.size acc ∧ Below w.heap.size w wr) (fun k _ => U.length - (intOf k).toNat)
  case atStart => exact ⟨0, [], by omega, rfl, FU.start U, HS.out, HB.out⟩
  case round =>
    obtain ⟨i, acc, hi, rfl, hfu, hsb, hbel⟩ := hrel
    have HFU := Lib.hid hfu
    have HSB := Lib.hid hsb
    have HBE := Lib.hid hbel
    have hal := hfu.2
    have hsz := hbel.size
    clear hfu hsb hbel
    have q1 : (0 : Int) ≤ i := by omega
    by_cases hlt : i < U.length
    · have q2 : (i : Int) < U.length := by omega
      obtain ⟨g, o, rfl, _, hcell⟩ := (HR.out.below HBE.out).2 (by omega)
      have hl0 := hcell i (by simpa using hlt)
      simp only [List.getElem_map] at hl0
      have hx16 := H16.out _ (List.getElem_mem hlt)
      have hl1 : ∀ h : i + 1 < U.length, wr.cell? ⟨g, o + (i + 1), none⟩ = some (uv_ U[i + 1]) := fun h => (hcell (i + 1) (by simpa using h)).trans (by rw [List.getElem_map])
      have hy16 : ∀ h : i + 1 < U.length, U[i + 1] < 65536 := fun h => H16.out _ (List.getElem_mem h)
      have HL1 := Lib.hid hl1
      have HY := Lib.hid hy16
      clear hcell hl1 hy16
      have d0 : decide (i < U.length) = true := by simp; omega
      have d0' : decide ((i : Int) < U.length) = true := by simp; omega
      by_cases hs : surr U[i]
      · by_cases hsome : (fuL U).2 = some i
        · have HO := Lib.hid (fuV_some hsome)
          have hor : (decide ((56319 : Int) < U[i]) = true) ∨ (decide ((56319 : Int) < U[i]) = false ∧ i + 1 = U.length) ∨ (decide ((56319 : Int) < U[i]) = false ∧ ∃ h : i + 1 < U.length, decide ((U[i + 1] : Int) < 56320) = true) ∨
              (decide ((56319 : Int) < U[i]) = false ∧ ∃ h : i + 1 < U.length, decide ((U[i + 1] : Int) < 56320) = false ∧ decide ((57343 : Int) < U[i + 1]) = true) := by
            by_cases c1 : 56319 < U[i]
            · left; simp; omega
            · by_cases c2 : i + 1 = U.length
              · right; left; exact ⟨by simp; omega, c2⟩
              · have h2 : i + 1 < U.length := by omega
                by_cases c3 : U[i + 1] < 56320
                · right; right; left; exact ⟨by simp; omega, h2, by simp; omega⟩
                · by_cases c4 : 57343 < U[i + 1]
                  · right; right; right; exact ⟨by simp; omega, h2, by simp; omega, by simp; omega⟩
                  · have hp := (HFU.out.pair h2 hs (by unfold lone; omega)).1
                    rw [hp] at hsome
                    cases hz : (fuL (U.drop (i + 2))).2 <;> rw [hz] at hsome <;> simp at hsome <;> omega
          have t1 : decide ((U[i] : Int) < 55296) = false := by unfold surr at hs; simp; omega
          have t2 : decide ((57343 : Int) < U[i]) = false := by unfold surr at hs; simp; omega
          clear hsome hs
          rcases hor with t3 | ⟨t3, h2⟩ | ⟨t3, h2, t4⟩ | ⟨t3, h2, t4, t5⟩
          · generalize U[i] = x at *
            go_wp2_with fail
            go_ret2
            exact ⟨by rw [HO.out]; rfl, HBE.out⟩
          · generalize U[i] = x at *
            have t4 : ((i : Int) + 1 == (U.length : Int)) = true := by simp; omega
            clear h2
            go_wp2_with fail
            go_ret2
            exact ⟨by rw [HO.out]; rfl, HBE.out⟩
          · have hl2 := HL1.out h2
            have t6 : ((i : Int) + 1 == (U.length : Int)) = false := by simp; omega
            generalize U[i] = x at *
            generalize U[i + 1] = y at *
            go_wp2_with fail
            go_ret2
            exact ⟨by rw [HO.out]; rfl, HBE.out⟩
          · have hl2 := HL1.out h2
            have t6 : ((i : Int) + 1 == (U.length : Int)) = false := by simp; omega
            generalize U[i] = x at *
            generalize U[i + 1] = y at *
            go_wp2_with fail
            go_ret2
            exact ⟨by rw [HO.out]; rfl, HBE.out⟩
        · have h2 : i + 1 < U.length := by
            by_cases c2 : i + 1 = U.length
            · exact absurd (HFU.out.last hlt c2 hs) hsome
            · omega
          have hlo : ¬ lone U[i] U[i + 1] := fun h => hsome (HFU.out.lone h2 hs h)
          have HF2 := Lib.hid (HFU.out.pair h2 hs hlo)
          have hl2 := HL1.out h2
          unfold surr at hs
          unfold lone at hlo
          have t1 : decide ((U[i] : Int) < 55296) = false := by simp; omega
          have t2 : decide ((57343 : Int) < U[i]) = false := by simp; omega
          have t3 : decide ((56319 : Int) < U[i]) = false := by simp; omega
          have t4 : decide ((U[i + 1] : Int) < 56320) = false := by simp; omega
          have t5 : decide ((57343 : Int) < U[i + 1]) = false := by simp; omega
          have t6 : ((i : Int) + 1 == (U.length : Int)) = false := by simp; omega
          have hsc : Scal (pairR U[i] U[i + 1]) := by unfold Scal pairR; omega
          have HW := Lib.hid (fun W (h : SB W w.heap.size w.heap.size acc) hB => writeRune w.heap.size w.heap.size acc (pairR U[i] U[i + 1]) W h hsc (by omega) hB)
          have HPR : Hid (((65536 + (U[i] - 55296) * 1024 + (U[i + 1] - 56320) : Nat) : Int) = (pairR U[i] U[i + 1] : Int)) := by unfold pairR; exact rfl
          have v1 : (55296 : Int) ≤ U[i] := by omega
          have v2 : (U[i] : Int) ≤ 56319 := by omega
          have v3 : (56320 : Int) ≤ U[i + 1] := by omega
          have v4 : (U[i + 1] : Int) ≤ 57343 := by omega
          clear hsc hs hlo hsome hx16
          generalize pairR U[i] U[i + 1] = z at *
          generalize U[i] = x at *
          generalize U[i + 1] = y at *
          go_wp2_with fail
          have he : (65536 + ((x : Int) - 55296) * 1024 + ((y : Int) - 56320)) = (z : Int) := by have := HPR.out; omega
          rw [he]
          refine (HW.out _ HSB.out hsz).mono ?_
          rintro e w1 ⟨rfl, hsb1, hb1⟩
          have HSB1 := Lib.hid hsb1
          have HB1 := Lib.hid hb1
          clear hsb1 hb1
          go_wp2_with fail
          go_roundw
          case rel => exact ⟨i + 2, acc ++ enc z, by omega, by go_num, HF2.out, HSB1.out, HBE.out.trans HB1.out⟩
          case measure => simp [intOf]; omega
      · have HF2 := Lib.hid (HFU.out.plain hlt hs)
        have hsc : Scal U[i] := by unfold Scal; unfold surr at hs; omega
        have HW := Lib.hid (fun W (h : SB W w.heap.size w.heap.size acc) hB => writeRune w.heap.size w.heap.size acc U[i] W h hsc (by omega) hB)
        clear hsc
        generalize U[i] = x at *
        unfold surr at hs
        have hor : decide ((x : Int) < 55296) = true ∨ (decide ((x : Int) < 55296) = false ∧ decide ((57343 : Int) < x) = true) := by
          by_cases h : x < 55296
          · left; simp; omega
          · right; simp; omega
        have xi : (x : Int) ≤ 65535 := by omega
        have x0 : (0 : Int) ≤ x := by omega
        clear hs hx16
        rcases hor with t1 | ⟨t1, t2⟩
        all_goals
          go_wp2_with fail
          refine (HW.out _ HSB.out hsz).mono ?_
          rintro e w1 ⟨rfl, hsb1, hb1⟩
          have HSB1 := Lib.hid hsb1
          have HB1 := Lib.hid hb1
          clear hsb1 hb1
          go_wp2_with fail
          go_roundw
          case rel => exact ⟨i + 1, acc ++ enc x, by omega, by go_num, HF2.out, HSB1.out, HBE.out.trans HB1.out⟩
          case measure => simp [intOf]; omega
    · have d0 : decide (i < U.length) = false := by simp; omega
      have HO := Lib.hid (fuV_none (HFU.out.over (by omega)))
      have HBS := Lib.hid (builderString w.heap.size w.heap.size acc wr HSB.out hsz)
      go_wp2_with fail
      refine HBS.out.mono ?_
      rintro e w1 ⟨rfl, hb1⟩
      have HB1 := Lib.hid (HBE.out.trans hb1)
      clear hb1
      go_wp2_with fail
      go_ret2
      exact ⟨by rw [HO.out]; rfl, HB1.out⟩
end Go.Proofs.Ytmdgopclcdmenaa
