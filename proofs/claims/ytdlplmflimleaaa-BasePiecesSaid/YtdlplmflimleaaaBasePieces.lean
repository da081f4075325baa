/-
  Proved: 'BasePieces' answers true at every integer and every row of rows of bytes: what a writer tells of bytes that come piece by piece is the reference's, and behind its End it begins anew. No condition beyond the given values' own reach.
-/
import Derived.Test.YtdlplmflimleaaaBaseF
import Derived.Test.YtdlplmflimleaaaPieces
import Derived.Test.YtdlplmflimleaaaRow
import Derived.WalkKit
import Derived.ProofKit
import Derived.OpenShut
import Derived.ShutString
import Derived.ChangeOld
import Derived.Below
import Derived.SizedLaws
namespace Go.Proofs.Ytdlplmflimleaaa.basePieces
open Go.ChangeShapes Go.WideShapes Go.ChangeAt Go.RowKit
open Go.ChangeMaps (open_string shut_string)
set_option linter.unusedVariables false
set_option linter.unusedSimpArgs false

theorem own : ownKnob Try.prog.godebug = none := by kernel_rfl
theorem laidOut : laidOutB Try.prog = true := by kernel_rfl

theorem ei_u8 : EI Try.prog 34 5 (.int .u8 0) 1 := ⟨Try.underlying34, info_parts info_u8, rfl, rfl⟩

theorem cmp_list (X Y : List UInt8) : ((⟨X.toArray⟩ : ByteArray) ++ ⟨Y.toArray⟩).toList = X ++ Y := by
  rw [ByteArray.mk_append_mk]; simp [go_sem]

/-- The first j pieces. -/
def cat (b : Nat → List UInt8) (j : Nat) : List UInt8 := (List.range j).flatMap b
theorem cat_zero (b : Nat → List UInt8) : cat b 0 = [] := rfl
theorem cat_succ (b : Nat → List UInt8) (j : Nat) : cat b (j + 1) = cat b j ++ b j := by unfold cat; rw [List.range_succ, List.flatMap_append]; simp
def tot (b : Nat → List UInt8) (j : Nat) : Nat := (cat b j).length + j
theorem tot_succ (b : Nat → List UInt8) (j : Nat) : tot b (j + 1) = tot b j + ((b j).length + 1) := by unfold tot; rw [cat_succ]; simp; omega
theorem cat_mono (b : Nat → List UInt8) (i j : Nat) (h : i ≤ j) : (cat b i).length ≤ (cat b j).length := by
  induction j with
  | zero => obtain rfl : i = 0 := by omega
            exact Nat.le_refl _
  | succ j ih =>
    rcases Nat.lt_or_ge i (j + 1) with h1 | h1
    · have := ih (by omega); rw [cat_succ]; simp; omega
    · obtain rfl : i = j + 1 := by omega
      exact Nat.le_refl _

theorem w_app (k r m : Nat) (hk : 0 < k) (x : List UInt8) : ∀ y : List UInt8,
    wE k r m (x ++ y) = wE k r m x ++ wE k (wR k r m x) (wM k m x) y ∧ wR k r m (x ++ y) = wR k (wR k r m x) (wM k m x) y ∧ wM k m (x ++ y) = wM k (wM k m x) y := by
  refine snoc_ind ?_ ?_
  · rw [List.append_nil, wE_nil _ _ _ (wM_lt _ _ _ hk), wR_nil _ _ _ (wM_lt _ _ _ hk) (wR_lt _ _ _ _), wM_nil _ _ (wM_lt _ _ _ hk), List.append_nil]
    exact ⟨rfl, rfl, rfl⟩
  · intro y c ⟨h1, h2, h3⟩
    obtain ⟨_, e1, e2, e3⟩ := w_step k r m (x ++ y) c hk _ _ rfl rfl
    obtain ⟨_, f1, f2, f3⟩ := w_step k (wR k r m x) (wM k m x) y c hk _ _ rfl rfl
    rw [← List.append_assoc, e1, e2, e3, f1, f2, f3, h1, h2, h3]
    exact ⟨by simp, rfl, rfl⟩

theorem sure_cut (a : Int) (k : Nat) (hk : 0 < k) (bs : List UInt8) : (⟨(lets a k bs).toArray⟩ : ByteArray).extract 0 (8 * bs.length / k) = ⟨((wE k 0 0 bs).map (Lat a)).toArray⟩ := by
  apply ByteArray.ext
  rw [ByteArray.data_extract, lets_eq a k hk]
  have hl : ((wE k 0 0 bs).map (Lat a)).length = 8 * bs.length / k := by simp [wE_length, wT]
  rw [← hl]
  apply Array.ext'
  simp

set_option maxRecDepth 100000 in
set_option maxHeartbeats 4000000 in
theorem walk (a0 : Int) (a1 : Option Addr) (len1 cap1 : Nat) (A1 : Nat → Option Addr) (L1 C1 : Nat → Nat) (b1 : Nat → List UInt8) (w : World) (w0 : (Lit.int .i64 a0).wf = true) (w1 : PB w w.heap.size a1 len1 A1 L1 C1 b1) (s1 : len1 ≤ 5864062014634) :
    Calls Try.prog 5 #[.int .i64 a0, .slice a1 len1 cap1] w fun e w' => e = .returned (.bool true) ∧ Below w.heap.size w w' := by
  have b0 := bounds_i64 w0
  have HP := Lib.hid w1
  clear w0 w1
  go_enter Try.func5, Try.ntmps5
  go_wp2_with fail
  go_loop [5, 6] (fun n i => ∃ j : Nat, j ≤ len1 ∧ i = .int .i64 j ∧ n = .int .i64 (tot b1 j : Nat) ∧ tot b1 j ≤ 140737622600000) (fun _ i => len1 - (intOf i).toNat)
  case atStart => exact ⟨0, by omega, rfl, rfl, by simp [tot, cat_zero]⟩
  case round =>
    obtain ⟨j, hj, rfl, rfl, htb⟩ := hrel
    by_cases hbig : 134217728 < tot b1 j
    · have hbd : decide (134217728 < tot b1 j) = true := by simpa using hbig
      have hm : tot b1 j ≤ 9223372036854775807 := by omega
      have HB := fun w => beyond_any (tot b1 j) w hm
      rw [hbd] at HB
      generalize tot b1 j = n at *
      have HB' := Lib.hid HB
      clear HB hbd
      by_cases hlt : j < len1
      · go_wp2_with (go_at_call 17; refine (HB'.out _).mono ?_; rintro e w' ⟨rfl, rfl⟩)
        go_ret
        exact ⟨rfl, Below.refl _ _⟩
      · go_wp2_with (go_at_call 17; refine (HB'.out _).mono ?_; rintro e w' ⟨rfl, rfl⟩)
        go_ret
        exact ⟨rfl, Below.refl _ _⟩
    · have hbd : decide (134217728 < tot b1 j) = false := by simpa using hbig
      have hm : tot b1 j ≤ 9223372036854775807 := by omega
      have HB := fun w => beyond_any (tot b1 j) w hm
      rw [hbd] at HB
      have HB' := Lib.hid HB
      clear HB hbd
      by_cases hlt : j < len1
      · obtain ⟨g, o, rfl, hg, hc⟩ := HP.out.2 (by omega)
        have hcell := hc j hlt
        obtain ⟨hrb, hlc, hcm⟩ := HP.out.1 j hlt
        have hll := hrb.1
        have hts := tot_succ b1 j
        rw [hll] at hts
        have HTS := Lib.hid hts
        have htn : tot b1 j + (L1 j + 1) ≤ 140737622600000 := by omega
        clear hc hrb hts hll
        generalize tot b1 j = n at *
        generalize L1 j = l at *
        go_wp2_with (go_at_call 17; refine (HB'.out _).mono ?_; rintro e w' ⟨rfl, rfl⟩)
        go_round
        case rel => exact ⟨j + 1, by omega, by go_num, by rw [HTS.out]; go_num, by rw [HTS.out]; exact htn⟩
        case measure => simp [intOf]; omega
      · obtain rfl : j = len1 := by omega
        have htl : ∀ i, i ≤ j → (cat b1 i).length ≤ 134217728 := by
          intro i hi
          have := cat_mono b1 i j hi
          unfold tot at hbig
          omega
        have HTL := Lib.hid htl
        clear htl hbig hm htb hlt hj
        generalize tot b1 j = n at *
        by_cases hr : 0 ≤ a0 ∧ a0 ≤ 255
        case neg =>
          have hne : (a0 != a0 % 256) = true := by rw [bne_iff_ne]; omega
          go_wp2_with (go_at_call 17; refine (HB'.out _).mono ?_; rintro e w' ⟨rfl, rfl⟩)
          go_ret
          exact ⟨rfl, Below.refl _ _⟩
        obtain ⟨r1, r2⟩ := hr
        have hm : a0 % 256 = a0 := by omega
        by_cases hz : Bt a0 = 0
        · have K : Hid (Bt a0 = 0) := hz
          clear hz
          go_wp2_with fail
          refine (HB'.out _).mono ?_
          rintro e w' ⟨rfl, rfl⟩
          go_wp2_with fail
          refine (new_no a0 _ K).mono ?_
          rintro e w' ⟨rfl, rfl⟩
          go_wp2_with fail
          refine (rbits_k _ _ _ K).mono ?_
          rintro e w' ⟨rfl, rfl⟩
          go_wp2_with fail
          refine (errno_yes _ _).mono ?_
          rintro e w' ⟨rfl, rfl⟩
          go_wp2_with fail
          go_ret
          exact ⟨rfl, Below.refl _ _⟩
        obtain ⟨k, hk, h0⟩ : ∃ k : Nat, Bt a0 = k ∧ (k = 4 ∨ k = 5 ∨ k = 6) := by
          rcases Bt_cases a0 with ⟨h1, h⟩ | ⟨h1, h⟩ | ⟨h1, h⟩ | ⟨_, _, _, h, _⟩
          · exact ⟨4, h, .inl rfl⟩
          · exact ⟨5, h, .inr (.inl rfl)⟩
          · exact ⟨6, h, .inr (.inr rfl)⟩
          · exact absurd h hz
        have K : Hid (Bt a0 = (k : Int)) := hk
        have H0 := Lib.hid h0
        have hkz : ((k : Int) == 0) = false := by simp; omega
        have hk0 : 0 < k := by omega
        have hk6 : k ≤ 6 := by omega
        have hk4 : 4 ≤ k := by omega
        clear hk h0 hz
        go_wp2_with fail
        refine (HB'.out _).mono ?_
        rintro e w' ⟨rfl, rfl⟩
        go_wp2_with fail
        refine (new_ok a0 k _ K (by have := H0.out; omega)).mono ?_
        rintro e w1 ⟨rfl, hblk, hbel⟩
        have HBL := Lib.hid hblk
        have HBE := Lib.hid hbel
        have hs1 := hblk.lt
        clear hblk hbel
        go_wp2_with fail
        refine (rbits_k _ _ _ K).mono ?_
        rintro e w' ⟨rfl, rfl⟩
        go_wp2_with fail
        go_loopw [9] (fun r wr => ∃ q : Nat, q ≤ 2 ∧ r = .int .i64 q ∧ Blk wr w.heap.size 72 (wcells a0 0 0) ∧ Below w.heap.size w wr) (fun r _ => 2 - (intOf r).toNat)
        case atStart => exact ⟨0, by omega, rfl, HBL.out, HBE.out⟩
        case round =>
          obtain ⟨wo, rfl⟩ : ∃ wo : World, wo = wr := ⟨_, rfl⟩
          obtain ⟨q, hq, rfl, hblk, hbel⟩ := hrel
          by_cases hq2 : q < 2
          · have hqb : decide ((q : Int) < 2) = true := by simp; omega
            have HBL := Lib.hid hblk
            have HBE := Lib.hid hbel
            have hsr := hblk.lt
            clear hblk hbel
            go_wp2_with fail
            go_loopw [10, 11, 12] (fun v t i wi => ∃ p : Nat, p ≤ j ∧ i = .int .i64 p ∧ t = .string ⟨((wE k 0 0 (cat b1 p)).map (Lat a0)).toArray⟩ ∧ OwnR wi (w.heap.size + 1) 5 (fun _ => True) v (cat b1 p).length ((cat b1 p).map bv) ∧
                Blk wi w.heap.size 72 (wcells a0 (wR k 0 0 (cat b1 p)) (wM k 0 (cat b1 p))) ∧ Below w.heap.size w wi) (fun _ _ i _ => j - (intOf i).toNat)
            case atStart => exact ⟨0, by omega, rfl, by rw [cat_zero, wE_nil _ _ _ hk0]; rfl, OwnR.nil _ _ _ _, by rw [cat_zero, wR_nil _ _ _ hk0 (by simp), wM_nil _ _ hk0]; exact HBL.out, HBE.out⟩
            case round =>
              obtain ⟨wi, rfl⟩ : ∃ wi : World, wi = wr := ⟨_, rfl⟩
              obtain ⟨p, hp, rfl, rfl, hown, hblk, hbel⟩ := hrel
              have hcl := HTL.out p hp
              by_cases hlt : p < j
              · obtain ⟨g, o, rfl, hg, hc⟩ := HP.out.2 (by omega)
                obtain ⟨hrb, hlc, hcm⟩ := HP.out.1 p hlt
                have hcell := keepc hbel hg (hc p hlt)
                have hcl1 := HTL.out (p + 1) (by omega)
                have hcs := cat_succ b1 p
                have hbl := hrb.1
                have hll : (cat b1 p).length + L1 p ≤ 134217728 := by rw [hcs] at hcl1; simp at hcl1; omega
                have hrbi := hrb.below hbel
                have hsi := hbel.size
                have hgb : w.heap.size < wi.heap.size := hblk.lt
                have HC0 := Lib.hid (hc p hlt)
                have HRB := Lib.hid hrbi
                have HCS := Lib.hid hcs
                have HBL := Lib.hid hbl
                have HBK := Lib.hid hblk
                have HBE := Lib.hid hbel
                have HOWN := Lib.hid hown
                have HWA := Lib.hid (w_app k 0 0 hk0 (cat b1 p) (b1 p))
                have HWM := Lib.hid (wM_lt k 0 (cat b1 p) hk0)
                have HWR := Lib.hid (wR_lt k 0 0 (cat b1 p))
                have HSC := Lib.hid (sure_cut a0 k hk0 (cat b1 (p + 1)))
                have hXl : ((wE k 0 0 (cat b1 p)).map (Lat a0)).length ≤ 8000000000 := by
                  rw [List.length_map, wE_length]; exact Nat.le_trans (Nat.div_le_self _ _) (by unfold wT; omega)
                have hYl : ((wE k (wR k 0 0 (cat b1 p)) (wM k 0 (cat b1 p)) (b1 p)).map (Lat a0)).length ≤ 8000000000 := by
                  rw [List.length_map, wE_length]; exact Nat.le_trans (Nat.div_le_self _ _) (by unfold wT; have := HWM.out; omega)
                clear hc hrb hcs hbl hblk hbel hown hrbi hcl hcl1
                generalize L1 p = l at *
                generalize A1 p = A at *
                generalize C1 p = C at *
                generalize b1 p = bs at *
                generalize hX : (wE k 0 0 (cat b1 p)).map (Lat a0) = X at *
                generalize hY : (wE k (wR k 0 0 (cat b1 p)) (wM k 0 (cat b1 p)) bs).map (Lat a0) = Y at *
                have HX := Lib.hid hX
                have HY := Lib.hid hY
                clear hX hY
                go_wp2_with fail
                refine (roomy_any A l C w.heap.size bs wi HRB.out hsi (by omega)).mono ?_
                rintro e w2 ⟨rfl, hroom, hb2⟩
                have hs2 := hb2.size
                have hrl := hroom.lt
                obtain ⟨hg1, hg2, hg3⟩ := roomy_holds hroom HBL.out
                have HROOM := Lib.hid hroom
                have HB2 := Lib.hid hb2
                have HG1 := Lib.hid hg1
                have hcell2 := keepc hb2 (show g < wi.heap.size by omega) hcell
                clear hroom hb2 hg1 hg2 hg3 hcell
                go_wp2_with fail
                refine (Put_k a0 k (wR k 0 0 (cat b1 p)) (wM k 0 (cat b1 p)) w.heap.size (some ⟨wi.heap.size, 0, none⟩) l (l + 2) (wi.heap.size + 1) bs w2 HG1.out (by intro g' o' h _; injection h with h; injection h with h; omega) hrl (HBK.out.below HB2.out hgb) HWM.out HWR.out K H0.out (by omega)).mono ?_
                rw [HY.out]
                rintro e w3 ⟨rfl, hblk3, hbut3⟩
                have hs3 := hbut3.size
                have hroom3 : Blk w3 wi.heap.size 5 ((bs ++ [7, 8]).map bv).toArray := (hbut3.block _ hrl (by omega)).trans HROOM.out
                obtain ⟨hg1, hg2, hg3⟩ := roomy_holds hroom3 HBL.out
                have hrb3 := (HRB.out.below (HB2.out.mono hsi)).but (hbut3.mono (show w.heap.size ≤ w2.heap.size by omega)) (fun g' o' h1 h2 => by have := HRB.out.lt g' o' h1 h2; omega)
                have hcell3 : w3.cell? ⟨g, o + p, none⟩ = some (.slice A l C) := by
                  rw [hbut3.cell (p := ⟨g, o + p, none⟩) (show g < w2.heap.size by omega) (show g ≠ w.heap.size by omega)]; exact hcell2
                have HBK3 := Lib.hid hblk3
                have HBUT3 := Lib.hid hbut3
                have HROOM3 := Lib.hid hroom3
                have HRB3 := Lib.hid hrb3
                have HG1 := Lib.hid hg1
                have HG2 := Lib.hid hg2
                have HG3 := Lib.hid hg3
                clear hblk3 hbut3 hroom3 hrb3 hg1 hg2 hg3 hcell2
                go_wp2_with fail
                refine (left_yes wi.heap.size l (l + 2) A l C (wi.heap.size + 1) w.heap.size bs w3 HG1.out HG2.out HG3.out HRB3.out (by omega)).mono ?_
                rintro e w' ⟨rfl, rfl⟩
                go_wp2_with fail
                go_loopw [14] (fun x wx => ∃ y : Nat, y ≤ l ∧ x = .int .i64 y ∧ (∃ t : List UInt8, t.length = l + 2 ∧ Blk wx wi.heap.size 5 (t.map bv).toArray) ∧ But w3.heap.size wi.heap.size w3 wx) (fun x _ => l - (intOf x).toNat)
                case atStart => exact ⟨0, by omega, rfl, ⟨bs ++ [7, 8], by simp [HBL.out], HROOM3.out⟩, But.refl _ _ _⟩
                case round =>
                  obtain ⟨wx, rfl⟩ : ∃ wx : World, wx = wr := ⟨_, rfl⟩
                  obtain ⟨y, hy, rfl, ⟨t, ht, hbt⟩, hbx⟩ := hrel
                  by_cases hyl : y < l
                  · have hcy : wx.cell? ⟨wi.heap.size, y, none⟩ = some (bv (t.getD y 0)) := by
                      rw [hbt.cell]; simp [List.getD, show y < t.length by omega]
                    have hfy := hbt.frozen y
                    have HBT := Lib.hid hbt
                    have HT := Lib.hid ht
                    clear hbt ht
                    go_wp2_with fail
                    go_roundw
                    case rel =>
                      exact ⟨y + 1, by omega, by go_num, ⟨t.set y 255, by simpa using HT.out, HBT.out.setb y 255⟩, hbx.setCell (.inl rfl) _⟩
                    case measure => simp [intOf]; omega
                  · obtain rfl : y = l := by omega
                    have hsx := hbx.size
                    have hrbx := HRB3.out.but (hbx.mono (show w.heap.size ≤ w3.heap.size by omega)) (fun g' o' h1 h2 => by have := HRB3.out.lt g' o' h1 h2; omega)
                    have hcellx : wx.cell? ⟨g, o + p, none⟩ = some (.slice A y C) := by
                      rw [hbx.cell (p := ⟨g, o + p, none⟩) (show g < w3.heap.size by omega) (show g ≠ wi.heap.size by omega)]; exact hcell3
                    have hown2 := HOWN.out.below HB2.out
                    have hown3 := hown2.but HBUT3.out (hown2.apart (HBK.out.below HB2.out hgb) (by decide))
                    have hownx := hown3.but hbx (by intro h; have := (HOWN.out.lt _ h).2; omega)
                    have hblkx : Blk wx w.heap.size 72 (wcells a0 (wR k (wR k 0 0 (cat b1 p)) (wM k 0 (cat b1 p)) bs) (wM k (wM k 0 (cat b1 p)) bs)) := (hbx.block _ (show w.heap.size < w3.heap.size by omega) (by omega)).trans HBK3.out
                    have hbelx : Below w.heap.size w wx := ((HBE.out.trans (HB2.out.mono hsi)).trans ((HBUT3.out.mono (show w.heap.size ≤ w2.heap.size by omega)).toBelow (Nat.le_refl _))).trans ((hbx.mono (show w.heap.size ≤ w3.heap.size by omega)).toBelow (by omega))
                    have HOW := Lib.hid hownx
                    have HBKX := Lib.hid hblkx
                    have HBEX := Lib.hid hbelx
                    have HRBX := Lib.hid hrbx
                    have HBX := Lib.hid hbx
                    clear hbx hrbx hown2 hown3 hownx hblkx hbelx hbt ht hcell3
                    have hsw : w.heap.size + 1 ≤ wx.heap.size := by omega
                    have hbl2 := HBL.out
                    have HBL3 := Lib.hid hbl2
                    clear hbl2
                    have hn5 : (cat b1 p).length + y = (cat b1 (p + 1)).length := by rw [HCS.out]; simp; exact HBL3.out.symm
                    have hle5 : (cat b1 (p + 1)).length ≤ 134217728 := HTL.out (p + 1) (by omega)
                    have hxy : X ++ Y = (wE k 0 0 (cat b1 (p + 1))).map (Lat a0) := by rw [HCS.out, HWA.out.1, List.map_append, HX.out, HY.out]
                    have hwr : wR k (wR k 0 0 (cat b1 p)) (wM k 0 (cat b1 p)) bs = wR k 0 0 (cat b1 (p + 1)) := by rw [HCS.out, HWA.out.2.1]
                    have hwm : wM k (wM k 0 (cat b1 p)) bs = wM k 0 (cat b1 (p + 1)) := by rw [HCS.out, HWA.out.2.2]
                    have HCS2 : Hid ((cat b1 p).map bv ++ bs.map bv = (cat b1 (p + 1)).map bv) := by rw [HCS.out, List.map_append]; exact rfl
                    rw [hwr, hwm] at HBKX
                    have HXY := Lib.hid hxy
                    have HN5 := Lib.hid hn5
                    have hll5 := lets_length a0 k (cat b1 (p + 1))
                    have hlo5 := (lettersOf_ge k (cat b1 (p + 1)).length hk0).1
                    have hsn : 8 * (cat b1 (p + 1)).length / k ≤ (lets a0 k (cat b1 (p + 1))).length := by
                      rw [hll5]; exact Nat.div_le_of_le_mul hlo5
                    have hsq : 8 * ((cat b1 (p + 1)).length : Int) / (k : Int) = ((8 * (cat b1 (p + 1)).length / k : Nat) : Int) := by simp
                    clear hxy hn5 hwr hwm hll5 hlo5 HCS
                    generalize hcs5 : cat b1 (p + 1) = cs at *
                    have HCS5 := Lib.hid hcs5
                    clear hcs5
                    generalize 8 * cs.length / k = sn at *
                    have hsc := HSC.out
                    generalize hZ : (wE k 0 0 cs).map (Lat a0) = Z at *
                    have HZ := Lib.hid hZ
                    clear hZ
                    go_wp2_with (at_builtin; refine wpList_app ei_u8 trivial rfl (.tmp 101) (.tmp 105) rfl (w.heap.size + 1) _ _ _ rfl HOW.out w.heap.size A y C (bs.map bv) rfl HRBX.out.rv (bv_one bs) (by omega) (by omega) hsw ?_; intro A5 cap5 w5 hown5 hg5 hat5; rw [HN5.out] at hown5 ⊢; rw [HCS2.out] at hown5)
                    refine (rbits_k _ _ _ K).mono ?_
                    rintro e w' ⟨rfl, rfl⟩
                    have HOW5 := Lib.hid hown5
                    have HG5 := Lib.hid hg5
                    clear hown5 hg5
                    go_wp2_with fail
                    refine (rwrite_k a0 k A5 cs.length cap5 w5.heap.size cs w5 HOW5.out.rv.rb (Nat.le_refl _) K H0.out (by omega)).mono ?_
                    rintro e w6 ⟨rfl, hb6⟩
                    have hletl := hsn
                    generalize lets a0 k cs = LT at *
                    have hcmp : (((⟨X.toArray⟩ : ByteArray) ++ ⟨Y.toArray⟩).toList == Z) = true := by rw [cmp_list, HXY.out]; simp
                    have HB6 := Lib.hid hb6
                    clear hb6
                    go_wp2_with fail
                    go_roundw
                    case rel =>
                      refine ⟨p + 1, by omega, by go_num, ?_, ?_, ?_, ?_⟩
                      · rw [HCS5.out, HZ.out, ← HXY.out, ByteArray.mk_append_mk]
                      · rw [HCS5.out]; exact HOW5.out.below HB6.out
                      · rw [HCS5.out]
                        have h5 := HBKX.out.grown HG5.out (by intro h; have := (HOW.out.lt _ h.symm).1; omega)
                        exact h5.below HB6.out h5.lt
                      · exact keepb (HBEX.out.grown HG5.out (by omega) (fun k' hk' => by have := (HOW.out.lt k' hk').1; omega)) HB6.out
                    case measure => simp [intOf]; omega
              · obtain rfl : p = j := by omega
                obtain ⟨A5, cap5, rfl, _⟩ := hown.shape
                have hsi := hbel.size
                have hgb : w.heap.size < wi.heap.size := hblk.lt
                have hrbc := hown.rv.rb
                have HRBC := Lib.hid hrbc
                have HBK := Lib.hid hblk
                have HBE := Lib.hid hbel
                have HAP := Lib.hid (hown.apart hblk (by decide))
                have HWM := Lib.hid (wM_lt k 0 (cat b1 p) hk0)
                have HWR := Lib.hid (wR_lt k 0 0 (cat b1 p))
                have HLE := Lib.hid (lets_eq a0 k hk0 (cat b1 p))
                have hXl : ((wE k 0 0 (cat b1 p)).map (Lat a0)).length ≤ 8000000000 := by
                  rw [List.length_map, wE_length]; exact Nat.le_trans (Nat.div_le_self _ _) (by unfold wT; omega)
                have hYl : (endL a0 k (wR k 0 0 (cat b1 p)) (wM k 0 (cat b1 p))).length ≤ 1 := endL_length _ _ _ _
                have hE0 : endL a0 k 0 0 = [] := by unfold endL; simp
                have HE0 := Lib.hid hE0
                clear hblk hbel hown hrbc hE0
                generalize hcs5 : cat b1 p = cs at *
                generalize hX : (wE k 0 0 cs).map (Lat a0) = X at *
                generalize hY : endL a0 k (wR k 0 0 cs) (wM k 0 cs) = Y at *
                have HX := Lib.hid hX
                have HY := Lib.hid hY
                have HCS5 := Lib.hid hcs5
                clear hX hY hcs5
                have hcmp : (((⟨X.toArray⟩ : ByteArray) ++ ⟨Y.toArray⟩).toList == lets a0 k cs) = true := by rw [cmp_list, HLE.out]; simp
                generalize hLT : lets a0 k cs = LT at *
                have HLT := Lib.hid hLT
                clear hLT
                go_wp2_with fail
                refine (end_k a0 k (wR k 0 0 cs) (wM k 0 cs) w.heap.size wi.heap.size wi HBK.out HWM.out HWR.out K H0.out).mono ?_
                rw [HY.out]
                rintro e w2 ⟨rfl, hblk2, hbut2⟩
                have hs2 := hbut2.size
                have HBK2 := Lib.hid hblk2
                have HBUT2 := Lib.hid hbut2
                clear hblk2 hbut2
                go_wp2_with fail
                have HRW := Lib.hid (rwrite_k a0 k A5 cs.length cap5 wi.heap.size cs w2 (HRBC.out.but HBUT2.out (by intro g' o' h _ hg; subst h hg; exact HAP.out rfl)) hs2 K H0.out (by omega))
                rw [HLT.out] at HRW
                refine HRW.out.mono ?_
                rintro e w3 ⟨rfl, hb3⟩
                have hs3 := hb3.size
                have HB3 := Lib.hid hb3
                clear hb3
                go_wp2_with fail
                refine (end_k a0 k 0 0 w.heap.size w3.heap.size w3 (HBK2.out.below HB3.out HBK2.out.lt) hk0 (by simp) K H0.out).mono ?_
                rw [HE0.out]
                rintro e w4 ⟨rfl, hblk4, hbut4⟩
                have HBK4 := Lib.hid hblk4
                have HBUT4 := Lib.hid hbut4
                clear hblk4 hbut4
                go_wp2_with fail
                go_roundw
                case rel =>
                  exact ⟨q + 1, by omega, by go_num, HBK4.out, ((HBE.out.trans ((HBUT2.out.mono hsi).toBelow (Nat.le_refl _))).trans (HB3.out.mono (by omega))).trans ((HBUT4.out.mono (by omega)).toBelow (Nat.le_refl _))⟩
                case measure => simp [intOf]; omega
          · have : q = 2 := by omega
            subst this
            go_wp2_with fail
            go_ret
            exact ⟨rfl, hbel⟩

set_option maxRecDepth 100000 in
theorem lifted (os : Os) (started : os.Started) (H : Type) (enc : TypeId × Value → H) :
    ReturnsInHanded {} Try.checked os 5 .any (Rows.basePiecesSpec.pre6 enc Try.prog Try.f5 Rows.basePiecesRow.domain false) (Rows.basePiecesSpec.post enc Try.prog Try.f5 false true false false) := by
  refine returnsInHanded_of_change_sized (C := Try.checked) own started (by kernel_rfl) Try.func5
    (ChangeSpec.witness6 (enc := enc) (C := Try.checked) false ⟨#[], #[.int .i64 0, .slice none 0 0], []⟩ 8 (by kernel_rfl) (by kernel_rfl) (by kernel_rfl) (by kernel_rfl)) ?_
  intro W base args ds gs before hval0 hW hcnd hsz0 _
  have hsz : (DataW.weightsEach Try.prog (Try.f5.params.toList ++ Rows.basePiecesSpec.plain.varTypes Try.prog) (ds ++ gs)).all (· ≤ reachBytes) = true := hsz0
  clear hsz0
  have hval : ∀ (j : Nat) t v, Try.f5.params[j]? = some t → args[j]? = some v → Value.okWide Try.prog W .any base t v := hval0
  have hW' := hW
  obtain ⟨p, q, hA0, hV, rfl, hfz, hnd⟩ := hW
  have hA : DataW.TrodAll enc Try.prog W 0 (fun _ => true) true Try.f5.params.toList args.toList ds p := hA0
  rw [Try.params5] at hA hval hsz
  obtain ⟨v0, vs0, d0, ds0, p0, q0, hargs, rfl, rfl, h0, r0⟩ := trodAll_cons hA
  obtain ⟨v1, vs1, d1, ds1, p1, q1, rfl, rfl, rfl, h1, r1⟩ := trodAll_cons r0
  obtain ⟨rfl, rfl, rfl⟩ := trodAll_nil r1
  obtain rfl : args = #[v0, v1] := by cases args; simp_all
  obtain ⟨rfl, rfl⟩ := trodVars_none hV
  obtain ⟨a0, rfl, rfl, rfl, w0⟩ := open_int Try.underlying3 (hval 0 3 v0 rfl rfl) h0
  obtain ⟨a1, len1, cap1, rfl⟩ := okWide_slice Try.underlying40 (hval 1 40 v1 rfl rfl)
  have k1 := h1
  have lt1 : ∀ x ∈ p1, x.block < W.heap.size := by obtain ⟨m, hm⟩ := k1; exact DataW.trod_lt m _ _ _ hm
  obtain ⟨A1, L1, C1, b1, w1, s1⟩ : ∃ A L C bs, PB W W.heap.size a1 len1 A L C bs ∧ len1 ≤ 5864062014634 := by
    obtain ⟨fuel, hf⟩ := h1
    exact open_pieces Try.underlying40 Try.underlying34 Try.underlying5 (by kernel_rfl) (by kernel_rfl) (by kernel_rfl) (by kernel_rfl) (x := (_, _)) hf
      (List.all_eq_true.2 fun n hn => List.all_eq_true.1 hsz n (DataW.weights_mem_each (j := 1) (t := 40) rfl rfl n hn))
  clear hA0 hval0
  refine (walk a0 a1 len1 cap1 A1 L1 C1 b1 W w0 w1 s1).mono fun e W' ⟨he, bel⟩ => ?_
  subst he
  exact ⟨_, rfl, _, _, _, [], _, [], hW', trodAll_mk1 (shut_bool Try.underlying4 _), (trodAll_cons_mk (shut_int Try.underlying3 w0) (trodAll_cons_mk (Below.trod laidOut (by kernel_rfl) (of_decide_eq_true (by kernel_rfl)) k1 bel lt1) trodAll_mk0)), rfl, bel.frame _, fun h => by cases h⟩

theorem over : Rows.basePiecesRow.holds Try.pinned (OpenSpec.ofChange Rows.basePiecesSpec) :=
  OpenClaim.holds_of_wide 5 Try.f5 rfl rfl rfl rfl rfl rfl rfl ⟨rfl, rfl, rfl, rfl, rfl⟩ rfl rfl rfl rfl rfl (by kernel_rfl) Try.func5 (by kernel_rfl)
    (of_decide_eq_true (by kernel_rfl)) (by unfold Func.isWrapper; first | (rw [if_pos (by decide +kernel)]; kernel_rfl) | (rw [if_neg (by decide +kernel)]; exact ⟨rfl, rfl⟩))
    (fun os started H enc _ => lifted os started H enc)

theorem proved : Rows.BasePiecesSaid := over
#print axioms proved
end Go.Proofs.Ytdlplmflimleaaa.basePieces
