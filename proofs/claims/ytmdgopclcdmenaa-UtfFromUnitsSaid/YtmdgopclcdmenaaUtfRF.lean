/- The contract of the reference's FromUnits. -/
import Derived.Test.YtmdgopclcdmenaaUtfSU
namespace Go.Proofs.Ytmdgopclcdmenaa
open Go.RowKit Go.Shelf
set_option linter.unusedSimpArgs false
set_option linter.unusedVariables false

/-- What the reference's FromUnits answers. -/
def fuR (U : List Nat) : Value := match fuL U with
  | (t, none) => .tuple #[.string ⟨t.toArray⟩, .int .i64 (-1)]
  | (_, some i) => .tuple #[.string ⟨#[]⟩, .int .i64 (i : Int)]
theorem fuR_none {U : List Nat} {t : List UInt8} (h : fuL U = (t, none)) : fuR U = .tuple #[.string ⟨t.toArray⟩, .int .i64 (-1)] := by unfold fuR; rw [h]
theorem fuR_some {U : List Nat} {i : Nat} (h : (fuL U).2 = some i) : fuR U = .tuple #[.string ⟨#[]⟩, .int .i64 (i : Int)] := by
  unfold fuR
  cases hf : fuL U with
  | mk a b => rw [hf] at h; simp only at h; subst h; rfl

theorem own_below {w w' : World} {base n : Nat} {e : TypeId} {v : Value} {xs : List Value} (h : w.ownsRow base e 1 v n xs) (hb : Below w.heap.size w w') : w'.ownsRow base e 1 v n xs := by
  refine h.kept ⟨hb.os, hb.tape, hb.output, hb.size, fun k hk' _ => hb.block k hk'⟩ (row := none) ?_
  cases hv : v.ownBlock with
  | none => exact .inl rfl
  | some k => exact .inr (by simp)

set_option maxRecDepth 100000 in
set_option maxHeartbeats 4000000 in
theorem rfromUnits (A : Option Addr) (c : Nat) (U : List Nat) (w : World) (hr : RV w w.heap.size A U.length (U.map uv_)) (h16 : ∀ x ∈ U, x < 65536) (hn : U.length ≤ 4294967296) (hc : U.length ≤ c) :
    Calls Try.prog 45 #[.slice A U.length c] w fun e w' => e = .returned (fuR U) ∧ Below w.heap.size w w' := by
  have HR := Lib.hid hr
  have H16 := Lib.hid h16
  clear hr h16
  go_enter Try.func45, Try.ntmps45
  go_wp2_with fail
  go_loopw [4, 5] (fun v k wr => ∃ (i : Nat) (acc : List UInt8), i ≤ U.length ∧ k = .int .i64 i ∧ FU U i acc ∧ wr.ownsRow w.heap.size 5 1 v acc.length (acc.map bv) ∧ Below w.heap.size w wr) (fun _ k _ => U.length - (intOf k).toNat)
  case atStart =>
    refine ⟨0, [], by omega, rfl, FU.start U, ?_, ?_⟩
    · exact ⟨by simp, .inr ⟨w.heap.size, 0, #[], rfl, Nat.le_refl _, heap_alloc_new w _, by simp, by unfold maxLen; omega, by simp, by simp⟩⟩
    · exact (Below.refl _ _).alloc (Nat.le_refl _) _
  case round =>
    obtain ⟨i, acc, hi, rfl, hfu, hown, hbel⟩ := hrel
    obtain ⟨A1, c1, rfl, hc1⟩ := own_shape hown
    have HFU := Lib.hid hfu
    have HOWN := Lib.hid hown
    have HBE := Lib.hid hbel
    have hal := hfu.2
    have hsz := hbel.size
    clear hfu hown hbel
    have q1 : (0 : Int) ≤ i := by omega
    by_cases hlt : i < U.length
    · have q2 : (i : Int) < U.length := by omega
      obtain ⟨g, o, rfl, _, hcell⟩ := (HR.out.below HBE.out).2 (by omega)
      have hl0 := hcell i (by simpa using hlt)
      simp only [List.getElem_map] at hl0
      have hx16 := H16.out _ (List.getElem_mem hlt)
      have hl1 : ∀ h : i + 1 < U.length, wr.cell? ⟨g, o + (i + 1), none⟩ = some (uv_ U[i + 1]) := fun h => (hcell (i + 1) (by simpa using h)).trans (by rw [List.getElem_map])
      have hy16 : ∀ h : i + 1 < U.length, U[i + 1] < 65536 := fun h => H16.out _ (List.getElem_mem h)
      have HL1 := Lib.hid hl1
      have HY := Lib.hid hy16
      clear hcell hl1 hy16
      have d0 : decide (i < U.length) = true := by simp; omega
      have d0' : decide ((i : Int) < U.length) = true := by simp; omega
      by_cases hs : surr U[i]
      · by_cases hsome : (fuL U).2 = some i
        · have HO := Lib.hid (fuR_some hsome)
          have hor : (decide ((56319 : Int) < U[i]) = true) ∨ (decide ((56319 : Int) < U[i]) = false ∧ i + 1 = U.length) ∨ (decide ((56319 : Int) < U[i]) = false ∧ ∃ h : i + 1 < U.length, decide ((U[i + 1] : Int) < 56320) = true) ∨
              (decide ((56319 : Int) < U[i]) = false ∧ ∃ h : i + 1 < U.length, decide ((U[i + 1] : Int) < 56320) = false ∧ decide ((57343 : Int) < U[i + 1]) = true) := by
            by_cases c1 : 56319 < U[i]
            · left; simp; omega
            · by_cases c2 : i + 1 = U.length
              · right; left; exact ⟨by simp; omega, c2⟩
              · have h2 : i + 1 < U.length := by omega
                by_cases c3 : U[i + 1] < 56320
                · right; right; left; exact ⟨by simp; omega, h2, by simp; omega⟩
                · by_cases c4 : 57343 < U[i + 1]
                  · right; right; right; exact ⟨by simp; omega, h2, by simp; omega, by simp; omega⟩
                  · have hp := (HFU.out.pair h2 hs (by unfold lone; omega)).1
                    rw [hp] at hsome
                    cases hz : (fuL (U.drop (i + 2))).2 <;> rw [hz] at hsome <;> simp at hsome <;> omega
          have t1 : decide ((U[i] : Int) < 55296) = false := by unfold surr at hs; simp; omega
          have t2 : decide ((57343 : Int) < U[i]) = false := by unfold surr at hs; simp; omega
          have xi : (U[i] : Int) ≤ 65535 := by omega
          have x0 : (0 : Int) ≤ U[i] := by omega
          clear hsome hs hx16
          rcases hor with t3 | ⟨t3, h2⟩ | ⟨t3, h2, t4⟩ | ⟨t3, h2, t4, t5⟩
          · generalize U[i] = x at *
            go_wp2_with fail
            go_ret2
            exact ⟨by rw [HO.out]; rfl, HBE.out⟩
          · generalize U[i] = x at *
            have t4 : decide ((U.length : Int) ≤ (i : Int) + 1) = true := by simp; omega
            clear h2
            go_wp2_with fail
            go_ret2
            exact ⟨by rw [HO.out]; rfl, HBE.out⟩
          · have hl2 := HL1.out h2
            have t7 : decide ((U.length : Int) ≤ (i : Int) + 1) = false := by simp; omega
            generalize U[i] = x at *
            generalize U[i + 1] = y at *
            go_wp2_with fail
            go_ret2
            exact ⟨by rw [HO.out]; rfl, HBE.out⟩
          · have hl2 := HL1.out h2
            have t7 : decide ((U.length : Int) ≤ (i : Int) + 1) = false := by simp; omega
            generalize U[i] = x at *
            generalize U[i + 1] = y at *
            go_wp2_with fail
            go_ret2
            exact ⟨by rw [HO.out]; rfl, HBE.out⟩
        · have h2 : i + 1 < U.length := by
            by_cases c2 : i + 1 = U.length
            · exact absurd (HFU.out.last hlt c2 hs) hsome
            · omega
          have hlo : ¬ lone U[i] U[i + 1] := fun h => hsome (HFU.out.lone h2 hs h)
          have HF2 := Lib.hid (HFU.out.pair h2 hs hlo)
          have hl2 := HL1.out h2
          unfold surr at hs
          unfold lone at hlo
          have t1 : decide ((U[i] : Int) < 55296) = false := by simp; omega
          have t2 : decide ((57343 : Int) < U[i]) = false := by simp; omega
          have t3 : decide ((56319 : Int) < U[i]) = false := by simp; omega
          have t4 : decide ((U[i + 1] : Int) < 56320) = false := by simp; omega
          have t5 : decide ((57343 : Int) < U[i + 1]) = false := by simp; omega
          have t7 : decide ((U.length : Int) ≤ (i : Int) + 1) = false := by simp; omega
          have hsc : Scal (pairR U[i] U[i + 1]) := by unfold Scal pairR; omega
          have HW := Lib.hid (fun W => rencode_ok (pairR U[i] U[i + 1]) W hsc)
          have HPR : Hid (((65536 + (U[i] - 55296) * 1024 + (U[i + 1] - 56320) : Nat) : Int) = (pairR U[i] U[i + 1] : Int)) := by unfold pairR; exact rfl
          have v1 : (55296 : Int) ≤ U[i] := by omega
          have v2 : (U[i] : Int) ≤ 56319 := by omega
          have v3 : (56320 : Int) ≤ U[i + 1] := by omega
          have v4 : (U[i + 1] : Int) ≤ 57343 := by omega
          clear hsc hs hlo hsome hx16
          generalize pairR U[i] U[i + 1] = z at *
          have hel := enc_le4 z
          generalize U[i] = x at *
          generalize U[i + 1] = y at *
          go_wp2_with fail
          have he : (65536 + ((x : Int) - 55296) * 1024 + (y : Int) - 56320) = (z : Int) := by have := HPR.out; omega
          rw [he]
          refine (HW.out _).mono ?_
          rintro e w1 ⟨rfl, hb1⟩
          have HO1 := Lib.hid (own_below HOWN.out hb1)
          have hs1 : w.heap.size ≤ w1.heap.size := Nat.le_trans hsz hb1.size
          have HB1 := Lib.hid (keepb HBE.out hb1)
          clear hb1
          go_wp2_with (at_builtin; refine wpList_pushstr rfl (.tmp 56) (.tmp 70) rfl w.heap.size _ _ acc rfl HO1.out _ rfl (by omega) hs1 ?_; intro A2 c2 w2 ho2 hg2 _)
          have HO2 := Lib.hid ho2
          have HB2 := Lib.hid (HB1.out.grown hg2 hs1 (fun k hk => (HO1.out.lt k hk).1))
          clear ho2 hg2
          go_roundw
          case rel => exact ⟨i + 2, acc ++ enc z, by omega, by go_num, HF2.out, by rw [List.length_append]; exact HO2.out, HB2.out⟩
          case measure => simp [intOf]; omega
      · have HF2 := Lib.hid (HFU.out.plain hlt hs)
        have hsc : Scal U[i] := by unfold Scal; unfold surr at hs; omega
        have HW := Lib.hid (fun W => rencode_ok U[i] W hsc)
        have hel := enc_le4 U[i]
        clear hsc
        generalize U[i] = x at *
        unfold surr at hs
        have hor : decide ((x : Int) < 55296) = true ∨ (decide ((x : Int) < 55296) = false ∧ decide ((57343 : Int) < x) = true) := by
          by_cases h : x < 55296
          · left; simp; omega
          · right; simp; omega
        have xi : (x : Int) ≤ 65535 := by omega
        have x0 : (0 : Int) ≤ x := by omega
        clear hs hx16
        rcases hor with t1 | ⟨t1, t2⟩
        all_goals
          go_wp2_with fail
          refine (HW.out _).mono ?_
          rintro e w1 ⟨rfl, hb1⟩
          have HO1 := Lib.hid (own_below HOWN.out hb1)
          have hs1 : w.heap.size ≤ w1.heap.size := Nat.le_trans hsz hb1.size
          have HB1 := Lib.hid (keepb HBE.out hb1)
          clear hb1
          go_wp2_with (at_builtin; refine wpList_pushstr rfl (.tmp 25) (.tmp 28) rfl w.heap.size _ _ acc rfl HO1.out _ rfl (by omega) hs1 ?_; intro A2 c2 w2 ho2 hg2 _)
          have HO2 := Lib.hid ho2
          have HB2 := Lib.hid (HB1.out.grown hg2 hs1 (fun k hk => (HO1.out.lt k hk).1))
          clear ho2 hg2
          go_roundw
          case rel => exact ⟨i + 1, acc ++ enc x, by omega, by go_num, HF2.out, by rw [List.length_append]; exact HO2.out, HB2.out⟩
          case measure => simp [intOf]; omega
    · have d0 : decide (i < U.length) = false := by simp; omega
      have HO := Lib.hid (fuR_none (HFU.out.over (by omega)))
      have kst := str_of_RB (RB.of_own HOWN.out) c1
      go_wp2_with fail
      go_ret2
      exact ⟨by rw [HO.out]; rfl, HBE.out⟩
end Go.Proofs.Ytmdgopclcdmenaa
