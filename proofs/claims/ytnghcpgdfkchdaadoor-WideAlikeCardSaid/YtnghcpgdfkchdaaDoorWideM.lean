/- The contracts of the law's digits, nat. -/
import Derived.Test.YtnghcpgdfkchdaaDoorWideL
import Derived.Deep.DrawnRows
namespace Go.Proofs.YtnghcpgdfkchdaaDoor
open Go.RowKit
set_option linter.unusedSimpArgs false
set_option linter.unusedVariables false

/-- Ten to a power: behind a name. -/
def tpow (m : Nat) : Nat := 10 ^ m
theorem lt_tpow {n k m : Nat} (h : n < 10 ^ k) (hk : k ≤ m) : n < tpow m := Nat.lt_of_lt_of_le h (Nat.pow_le_pow_right (by decide) hk)
theorem tpow_blen {x m : Nat} (h : x < tpow m) : blen x ≤ 4 * m := by
  rw [blen_le, Nat.pow_mul]
  exact Nat.lt_of_lt_of_le h (Nat.pow_le_pow_left (by decide) m)
theorem tpow_dtext {x m : Nat} (h : x < tpow m) (hm : 0 < m) : (dtext x).length ≤ m := dtext_len h hm
theorem tpow_pos (m : Nat) : 0 < tpow m := Nat.pow_pos (by decide)
theorem tpow_mul {x y m : Nat} (h : x < tpow m) (k : y < tpow m) : x * y < tpow (m + m) := by
  unfold tpow at *
  rw [Nat.pow_add]
  exact Nat.mul_lt_mul'' h k
/-- What digits answers: a number's digits, of at most 900 of them. -/
def DigP (w : World) (e : Ending) (w' : World) : Prop := ∃ x, e = .returned (.string ⟨(dtext x).toArray⟩) ∧ x < tpow 900 ∧ Below w.heap.size w w'

set_option maxRecDepth 100000 in
set_option maxHeartbeats 4000000 in
theorem digits_any (s : List UInt8) (w : World) (hs : s.length ≤ 1000000000000000) :
    Calls Tryd.prog 18 #[.string ⟨s.toArray⟩] w (DigP w) := by
  go_enter Tryd.func18, Tryd.ntmps18
  go_wp2_with fail
  go_loopw [3, 4] (fun v i wr => ∃ (j : Nat) (L : List UInt8), i = .int .i64 j ∧ j ≤ s.length ∧ j ≤ 900 ∧ L.length = j ∧ (∀ c ∈ L, isD c = true) ∧ OwnR wr w.heap.size 5 okB v L.length (L.map bv) ∧ Below w.heap.size w wr) (fun _ i _ => s.length - (intOf i).toNat)
  case atStart => exact ⟨0, [], rfl, by omega, by omega, rfl, (fun c h => by cases h), OwnR.nil _ _ _ _, Below.refl _ _⟩
  case round =>
    obtain ⟨j, L, rfl, hj, hj9, hL, hD, hu, hbel⟩ := hrel
    obtain ⟨A1, c1, hu', hc1⟩ := hu.shape
    subst hu'
    have HU := Lib.hid hu
    have HL := Lib.hid hL
    have HD := Lib.hid hD
    have HBE := Lib.hid hbel
    have hsz := hbel.size
    clear hu hL hD hbel
    by_cases hgo : j < s.length ∧ j < 900
    · obtain ⟨hlt, h9⟩ := hgo
      have hb := dn_get s j hlt
      have hx := dn_lt s j
      generalize dn s j = x at *
      have t0 : decide ((j : Int) < s.length) = true := by simp; omega
      have t0' : decide (j < s.length) = true := by simp; omega
      have t1 : decide ((L.length : Int) < 900) = true := by simp; rw [HL.out]; omega
      have t1' : decide (L.length < 900) = true := by simp; rw [HL.out]; omega
      have hd9 : x % 10 < 10 := Nat.mod_lt _ (by omega)
      have r1 : (x : Int) % 10 = ((x % 10 : Nat) : Int) := by omega
      have r2 : (x : Int).tmod 10 = ((x % 10 : Nat) : Int) := by rw [Int.tmod_eq_emod_of_nonneg (by omega)]; omega
      have hdc : (48 : Int) + ((x % 10 : Nat) : Int) = ((dch (x % 10)).toNat : Int) := by rw [dch_toNat hd9]; omega
      have hdd : isD (dch (x % 10)) = true := by unfold isD; rw [dch_toNat hd9]; simp; omega
      have HDC := Lib.hid hdc
      have HDD := Lib.hid hdd
      have hLl : L.length ≤ 900 := by rw [HL.out]; omega
      clear hdc hdd
      generalize x % 10 = d at *
      go_wp2_with (at_builtin; refine wpList_app ei_u8 ⟨0, rfl⟩ rfl (.tmp 16) (.tmp 22) rfl w.heap.size _ _ _ rfl (HU.out.below (below_new _ _)) _ _ _ _ _ rfl (RV.fresh wr 5 [.int .u8 (48 + (d : Int))]) (fun u hu => by simp at hu; subst hu; rfl) (show L.length + 1 ≤ _ by omega) (show (L.length + 1) * 1 ≤ _ by omega) (by simp; omega) ?_; intro A5 c5 w5 hu5 hg5 ha5)
      have hnew : L.map bv ++ [Value.int .u8 (48 + (d : Int))] = (L ++ [dch d]).map bv := by rw [HDC.out]; simp
      rw [hnew] at hu5
      have HU5 := Lib.hid hu5
      have HBE5 := Lib.hid ((HBE.out.alloc hsz _).grown hg5 (by simp; omega) (fun k hk => (HU.out.lt k hk).1))
      clear hnew hu5 hg5
      go_wp2_with fail
      go_roundw
      case rel => exact ⟨j + 1, L ++ [dch d], by go_num, by omega, by omega, by simp [HL.out], fun c hc => (List.mem_append.1 hc).elim (HD.out c) (fun h => by simp at h; subst h; exact HDD.out), by rw [List.length_append]; exact HU5.out, HBE5.out⟩
      case measure => simp [intOf]; omega
    · have hor : (decide ((j : Int) < s.length) = false ∧ decide (j < s.length) = false) ∨ (decide ((j : Int) < s.length) = true ∧ decide (j < s.length) = true ∧ decide ((L.length : Int) < 900) = false ∧ decide (L.length < 900) = false) := by
        by_cases h : j < s.length
        · right; exact ⟨by simp; omega, by simp; omega, by simp; rw [HL.out]; omega, by simp; rw [HL.out]; omega⟩
        · left; exact ⟨by simp; omega, by simp; omega⟩
      have hL9 : L.length ≤ 900 := by rw [HL.out]; exact hj9
      clear hgo
      have HOR := Lib.hid hor
      clear hor
      by_cases h0 : L.length = 0
      · obtain rfl : L = [] := List.eq_nil_of_length_eq_zero h0
        have hj0 : j = 0 := by rw [← HL.out]; rfl
        have hs0 : ¬ j < s.length := by
          intro h
          rcases HOR.out with ⟨_, h1⟩ | ⟨_, _, _, h1⟩
          · simp at h1; omega
          · simp at h1
        subst hj0
        obtain rfl : s = [] := List.eq_nil_of_length_eq_zero (by omega)
        have HP := Lib.hid (tpow_pos 900)
        have HDT : Hid (dtext 0 = [48]) := rfl
        clear h0 hs0
        go_wp2_with fail
        refine wp_loop_rounds 1 ?_
        rw [rounds_succ]
        go_wp2_with fail
        go_ret
        exact ⟨0, by rw [HDT.out]; rfl, HP.out, HBE.out⟩
      · have hLne : L ≠ [] := fun h => h0 (by rw [h]; rfl)
        have HRT := Lib.hid (RT.of_own HU.out)
        have HLT : Hid (∃ g, A1 = some ⟨g, 0, none⟩) := by
          rcases HU.out.2 with ⟨_, h⟩ | ⟨g, cap, rest, hv, _⟩
          · omega
          · injection hv with hA; exact ⟨g, hA⟩
        obtain ⟨g, rfl⟩ := HLT.out
        have hcell0 : ∀ i (hi : i < L.length), wr.cell? ⟨g, i, none⟩ = some (bv L[i]) := fun i hi => by
          obtain ⟨g', o', hA, hc⟩ := HRT.out.cell i (by simpa using hi)
          rcases HU.out.2 with ⟨_, h⟩ | ⟨g2, cap, rest, hv, _, hB, _⟩
          · omega
          · injection hv with hA2
            injection hA2 with hA2
            injection hA2 with hA2
            subst hA2
            rw [hB.cell, List.getElem?_toArray, List.getElem?_append_left (by simpa using hi), List.getElem?_map, List.getElem?_eq_getElem hi]
            rfl
        have HC0 := Lib.hid hcell0
        clear hcell0
        rcases HOR.out with ⟨t0, t0'⟩ | ⟨t0, t0', t1, t1'⟩
        all_goals
          go_wp2_with fail
          go_loop [3] (fun v => ∃ (k : Nat) (c' : Nat) (M : List UInt8), v = .slice (some ⟨g, k, none⟩) M.length c' ∧ L.drop k = M ∧ M ≠ [] ∧ M.length ≤ c' ∧ dval M = dval L) (fun v => match v with | .slice _ n _ => n | _ => 0)
          case atStart => exact ⟨0, c1, L, rfl, by simp, hLne, hc1, rfl⟩
          case round =>
            obtain ⟨k, c', M, rfl, hM, hMne, hMc, hMv⟩ := hrel
            have HM := Lib.hid hM
            have HMV := Lib.hid hMv
            have hMl : M.length = L.length - k := by rw [← hM]; simp
            have hMpos : 0 < M.length := List.length_pos_iff.2 hMne
            have hkl : k < L.length := by omega
            have hg0 : M.getD 0 0 = L[k] := by rw [← hM]; simp [List.getD, hkl]
            have hc0 : wr.cell? ⟨g, k, none⟩ = some (bv (M.getD 0 0)) := by
              rw [HC0.out k hkl, hg0]
            clear hg0
            have hMD : ∀ c ∈ M, isD c = true := fun c hc => HD.out c (by rw [← hM] at hc; exact List.mem_of_mem_drop hc)
            have HMD := Lib.hid hMD
            have HMne := Lib.hid hMne
            have HMl := Lib.hid hMl
            obtain ⟨y, hy⟩ : ∃ y, y = M.getD 0 0 := ⟨_, rfl⟩
            rw [← hy] at hc0
            have HY := Lib.hid hy
            have hM9 : M.length ≤ 900 := by omega
            clear hM hMv hMl hMD hMne hy
            by_cases hgo : 1 < M.length ∧ y = 48
            · obtain ⟨h1, rfl⟩ := hgo
              obtain ⟨M', hM'⟩ : ∃ M', M = 48 :: M' := by
                cases M with
                | nil => simp at h1
                | cons a M' => have := HY.out; simp [List.getD] at this; exact ⟨M', by rw [← this]⟩
              have hdr : L.drop (k + 1) = M' := by rw [← List.drop_drop, HM.out, hM']; rfl
              have hv' : dval M' = dval L := by
                rw [← HMV.out, hM']
                have := dval_append [48] M'
                simp only [List.singleton_append] at this
                rw [this]
                have h0 : dval [48] = 0 := rfl
                rw [h0]; simp
              have hl' : M.length = M'.length + 1 := by rw [hM']; rfl
              have HDR := Lib.hid hdr
              have HV' := Lib.hid hv'
              have hne' : M' ≠ [] := by intro h; rw [h] at hl'; simp at hl'; omega
              have HNE' := Lib.hid hne'
              have hm1 : M.length - 1 = M'.length := by omega
              have hcc : ¬ (1 = c') := by omega
              have hcc' : ((1 : Nat) == c') = false := by rw [beq_eq_false_iff_ne]; omega
              have t2 : decide ((1 : Int) < M.length) = true := by simp; omega
              have t2' : decide (1 < M.length) = true := by simp; omega
              have q : (1 : Int) ≤ M.length := by omega
              have HL' := Lib.hid hl'
              clear hdr hv' hM' hne' hl'
              generalize M.length = ml at *
              go_wp2_with fail
              go_round
              case rel => exact ⟨k + 1, c' - 1, M', rfl, HDR.out, HNE'.out, by omega, HV'.out⟩
              case measure => exact show M'.length < ml by have := HL'.out; omega
            · have hcan : dtext (dval L) = M := by
                rw [← HMV.out]
                refine dtext_canon HMD.out HMne.out ?_
                by_cases h1 : 1 < M.length
                · left
                  rw [← HY.out]
                  exact fun h => hgo ⟨h1, h⟩
                · right; omega
              have HCAN := Lib.hid hcan
              have hxl : dval L < tpow 900 := by
                rw [← HMV.out]
                exact lt_tpow (dval_lt M HMD.out) hM9
              have HXL := Lib.hid hxl
              have hrb : RB wr wr.heap.size (some ⟨g, k, none⟩) M.length M := by
                obtain ⟨g', o', hA, hc⟩ := HRT.out.cell 0 (by simp; omega)
                refine ⟨rfl, fun _ => ⟨g, k, rfl, ?_, fun i hi => ?_⟩⟩
                · exact World.block_lt_of_cell? wr _ hc0
                · have hki : k + i < L.length := by rw [HMl.out] at hi; omega
                  rw [HC0.out (k + i) hki]
                  congr 2
                  have h2 : (L.drop k)[i]? = M[i]? := by rw [HM.out]
                  rw [List.getElem?_drop, List.getElem?_eq_getElem hki, List.getElem?_eq_getElem hi] at h2
                  simpa using h2
              have hstr := fun cc => str_of_RB hrb cc
              have t5 : ((M.length : Int) == 0) = false := by rw [beq_eq_false_iff_ne]; omega
              have hways : (decide ((1 : Int) < M.length) = false ∧ decide (1 < M.length) = false) ∨ (decide ((1 : Int) < M.length) = true ∧ decide (1 < M.length) = true ∧ ((y.toNat : Int) == 48) = false) := by
                by_cases h1 : 1 < M.length
                · right
                  refine ⟨by simp; omega, by simp; omega, ?_⟩
                  rw [beq_eq_false_iff_ne]
                  intro h
                  exact hgo ⟨h1, UInt8.toNat_inj.1 (by show y.toNat = 48; omega)⟩
                · left; exact ⟨by simp; omega, by simp; omega⟩
              have hMd : M.toArray = (dtext (dval L)).toArray := by rw [HCAN.out]
              have HMd := Lib.hid hMd
              clear hcan hxl hrb hgo hMd
              rcases hways with ⟨u1, u2⟩ | ⟨u1, u2, u3⟩
              all_goals
                go_wp2_with fail
                go_ret
                exact ⟨dval L, by rw [← HMd.out]; rfl, HXL.out, HBE.out⟩
end Go.Proofs.YtnghcpgdfkchdaaDoor
