/- The contract of the reference's Read. -/
import Derived.Test.YtdlplmflimleaaaBaseR
import Derived.Test.YtdlplmflimleaaaBaseU
import Derived.Deep.DrawnRows
import Derived.OwnWalk
namespace Go.Proofs.Ytdlplmflimleaaa
open Go.RowKit
set_option linter.unusedSimpArgs false
set_option linter.unusedVariables false

/-- What is behind the reference's Read. -/
def RReadPost (a : Int) (k : Nat) (s : List UInt8) (w : World) (e : Ending) (w' : World) : Prop :=
  ∃ v, e = .returned (.tuple #[v, .int .i64 ((rd a k s).2.1 : Nat), .int .i64 ((rd a k s).2.2 : Nat)]) ∧ Below w.heap.size w w' ∧
    ((rd a k s).2.1 = 0 → ∃ A c, v = .slice A (rd a k s).1.length c ∧ RB w' w'.heap.size A (rd a k s).1.length (rd a k s).1 ∧ ∀ g o, A = some ⟨g, o, none⟩ → w.heap.size ≤ g) ∧
    ((rd a k s).2.1 ≠ 0 → v = .slice none 0 0)

/-- The bytes behind P bits. -/
def bB (a : Int) (k : Nat) (s : List UInt8) (P : Nat) : List UInt8 := (digs 256 (k * s.length / 8) (bY (k * s.length / 8) (k * s.length) (rU a k s) P)).map UInt8.ofNat
theorem bB_length (a : Int) (k : Nat) (s : List UInt8) (P : Nat) : (bB a k s P).length = k * s.length / 8 := by simp [bB, digs_length]
theorem rmr_nat (k L : Nat) (h0 : k = 4 ∨ k = 5 ∨ k = 6) : RmR (k : Int) (L : Int) = if k * L % 8 < k then ((k * L / 8 : Nat) : Int) else -1 := by
  unfold RmR
  rcases h0 with rfl | rfl | rfl
  all_goals
    have e1 := Nat.div_add_mod L 8
    obtain ⟨A, hA⟩ : ∃ A, A = L / 8 := ⟨_, rfl⟩
    obtain ⟨B, hB⟩ : ∃ B, B = L % 8 := ⟨_, rfl⟩
    have hB8 : B < 8 := by omega
    have e2 : (L : Int) / 8 = (A : Int) := by omega
    have e3 : (L : Int) % 8 = (B : Int) := by omega
    rw [e2, e3]
    rw [← hA, ← hB] at e1
    clear hA hB e2 e3
    subst e1
    simp only [Int.cast_ofNat_Int]
    have hB9 : B = 0 ∨ B = 1 ∨ B = 2 ∨ B = 3 ∨ B = 4 ∨ B = 5 ∨ B = 6 ∨ B = 7 := by omega
    rcases hB9 with rfl | rfl | rfl | rfl | rfl | rfl | rfl | rfl <;> simp <;> omega

theorem Blk.rb_map {w : World} {g : Nat} {t : TypeId} {bs : List UInt8} (hb : Blk w g t (bs.map bv).toArray) : RB w (g + 1) (some ⟨g, 0, none⟩) bs.length bs :=
  ⟨rfl, fun _ => ⟨g, 0, rfl, Nat.lt_succ_self _, fun j hj => by rw [hb.cell, Nat.zero_add]; simp [hj]⟩⟩
/-- A bit more in the bytes. -/
theorem bB_on (a : Int) (k : Nat) (s : List UInt8) (P : Nat) (hP : P < 8 * (k * s.length / 8)) (hb : rU a k s / 2 ^ (k * s.length - P - 1) % 2 = 1) :
    ∃ d : UInt8, d.toNat + 2 ^ (7 - P % 8) < 256 ∧ (bB a k s P)[P / 8]? = some d ∧ bB a k s (P + 1) = (bB a k s P).set (P / 8) (UInt8.ofNat (d.toNat + 2 ^ (7 - P % 8))) := by
  have h1 := bit_on (k * s.length / 8) (k * s.length) (rU a k s) P (by omega) hP hb
  unfold bB
  obtain ⟨h2, h3, _⟩ := h1
  rw [h2]
  generalize bY (k * s.length / 8) (k * s.length) (rU a k s) P = Y at *
  generalize k * s.length / 8 = N at *
  have hs := digs_set N Y (8 * N - P - 1) (by omega) h3
  rw [show N - 1 - (8 * N - P - 1) / 8 = P / 8 by omega, show (8 * N - P - 1) % 8 = 7 - P % 8 by omega] at hs
  have hl := digs_length 256 N Y
  have hi : P / 8 < N := by omega
  have hg : (digs 256 N Y)[P / 8]? = some ((digs 256 N Y).getD (P / 8) 0) := by
    simp [List.getD, hl, hi]
  have hd : (digs 256 N Y).getD (P / 8) 0 < 256 := digs_lt 256 N Y (by omega) _ (List.mem_of_getElem? hg)
  generalize (digs 256 N Y).getD (P / 8) 0 = dn at *
  have hd2 : dn + 2 ^ (7 - P % 8) < 256 := by
    refine digs_lt 256 N (Y + 2 ^ (8 * N - P - 1)) (by omega) _ ?_
    rw [hs]
    exact List.mem_set (by omega) _
  have hdn : (UInt8.ofNat dn).toNat = dn := UInt8.toNat_ofNat_of_lt' hd
  refine ⟨UInt8.ofNat dn, by rw [hdn]; exact hd2, by rw [List.getElem?_map, hg]; rfl, ?_⟩
  rw [hs, hdn, List.map_set]

attribute [local go_sem ↓] Go.wp_at_zero Go.wp_at_succ
set_option maxRecDepth 100000 in
set_option maxHeartbeats 4000000 in
theorem rread_4 (a : Int) (s : List UInt8) (w : World) (hk : Bt a = (4 : Nat)) (hn : s.length ≤ 1000000000) :
    Calls Try.prog 30 #[.int .i64 a, .string ⟨s.toArray⟩] w (RReadPost a 4 s w) := by
  have K : Hid (Bt a = ((4 : Nat) : Int)) := hk
  have HK := Lib.hid hk
  have hsz : (⟨s.toArray⟩ : ByteArray).size = s.length := rfl
  have hrm := fun W => rroom_k a 4 s.length W hk (by omega) (by omega) (by omega)
  rw [show (4 : Int) = ((4 : Nat) : Int) from rfl, rmr_nat 4 s.length (by omega)] at hrm
  have HRM := Lib.hid hrm
  clear hk hrm
  go_enter Try.func30, Try.ntmps30
  go_wp2_with (first
    | (go_at_call 12; refine (rbits_k _ _ _ K).mono ?_; rintro e w' ⟨rfl, rfl⟩))
  go_loop [8] (fun i => ∃ j : Nat, j ≤ s.length ∧ j ≤ badAt a s ∧ i = .int .i64 j) (fun i => s.length - (intOf i).toNat)
  case atStart => exact ⟨0, by omega, by omega, rfl⟩
  case round =>
    obtain ⟨j, hj, hjb, rfl⟩ := hrel
    by_cases hlt : j < s.length
    · by_cases hbad : badAt a s = j
      · have hneg := bad_here a s j hlt hbad
        have hrd := rd_bad a 4 s j hbad hlt
        have HRD := Lib.hid hrd
        have hnm := fun W => rnumber_k a (4 : Nat) s[j] W HK.out (by omega)
        generalize Nm a s[j] = z at *
        have HNM := Lib.hid hnm
        clear hrd hnm hbad hjb
        go_wp2_with fail
        refine (HNM.out _).mono ?_
        rintro e w' ⟨rfl, rfl⟩
        go_wp2_with fail
        go_ret3
        refine ⟨_, by rw [HRD.out]; rfl, Below.refl _ _, fun h => ?_, fun _ => rfl⟩
        rw [HRD.out] at h; cases h
      · have hnn := bad_not a s j hlt (by omega)
        have hnm := fun W => rnumber_k a (4 : Nat) s[j] W HK.out (by omega)
        generalize Nm a s[j] = z at *
        have HNM := Lib.hid hnm
        clear hnm
        go_wp2_with fail
        refine (HNM.out _).mono ?_
        rintro e w' ⟨rfl, rfl⟩
        go_wp2_with fail
        go_round
        case rel => exact ⟨j + 1, by omega, by omega, by go_num⟩
        case measure => simp [intOf]; omega
    · obtain rfl : j = s.length := by omega
      have hbad : ¬ badAt a s < s.length := by omega
      have hall := badAt_all a s hbad
      have hrd : rd a 4 s = if 4 ≤ 4 * s.length % 8 then ([], 61, s.length) else if rR a 4 s ≠ 0 then ([], 62, s.length - 1) else ((rE a 4 s).map UInt8.ofNat, 0, 0) := by
        unfold rd; rw [if_neg hbad]
      have HRD := Lib.hid hrd
      have HALL := Lib.hid hall
      clear hbad hall hrd hjb
      by_cases hodd : 4 ≤ 4 * s.length % 8
      · have h1 := HRD.out
        rw [if_pos hodd] at h1
        have hr := HRM.out
        rw [if_neg (by omega)] at hr
        have HR2 := Lib.hid hr
        have H1 := Lib.hid h1
        clear h1 hr HRM HRD
        go_wp2_with fail
        refine (HR2.out _).mono ?_
        rintro e w' ⟨rfl, rfl⟩
        go_wp2_with fail
        go_ret3
        refine ⟨_, by rw [H1.out]; rfl, Below.refl _ _, fun h => ?_, fun _ => rfl⟩
        rw [H1.out] at h; cases h
      · have h1 := HRD.out
        rw [if_neg hodd] at h1
        have hr := HRM.out
        rw [if_pos (by omega)] at hr
        have HR2 := Lib.hid hr
        have H1 := Lib.hid h1
        have hn8 : 4 * s.length / 8 ≤ 140737488355320 := by have := Nat.div_le_self (4 * s.length) 8; omega
        have hmk := fun W => make_bytes (4 * s.length / 8) (4 * s.length / 8) (Nat.le_refl _) (by omega) W
        have hT8 : 8 * (4 * s.length / 8) ≤ 4 * s.length := by omega
        have hT9 : 4 * s.length < 8 * (4 * s.length / 8) + 8 := by omega
        have HT8 := Lib.hid hT8
        have HT9 := Lib.hid hT9
        clear h1 hr HRM HRD hT8 hT9
        obtain ⟨N, hN⟩ : ∃ N, N = 4 * s.length / 8 := ⟨_, rfl⟩
        rw [← hN] at hmk hn8
        rw [← hN] at HT8 HT9 HR2
        have HN := Lib.hid hN
        clear hN
        go_wp2_with fail
        refine (HR2.out _).mono ?_
        rintro e w' ⟨rfl, rfl⟩
        go_wp2_with fail
        have hblk0 : Blk (w.alloc (.cells (zrow N).toArray 5)) w.heap.size 5 ((bB a 4 s (0 * 4)).map bv).toArray := by
          have e : (bB a 4 s (0 * 4)).map bv = zrow N := by
            unfold bB zrow
            rw [Nat.zero_mul, bY_zero _ _ _ (rU_lt a 4 HK.out (by omega) s HALL.out), digs_zero, ← HN.out]
            simp
          rw [e]
          exact Blk.new w _ _
        have hbel0 : Below w.heap.size w (w.alloc (.cells (zrow N).toArray 5)) := (Below.refl _ _).alloc (Nat.le_refl _) _
        generalize w.alloc (.cells (zrow N).toArray 5) = W0 at *
        have HBL0 := Lib.hid hblk0
        have HBE0 := Lib.hid hbel0
        clear hblk0 hbel0 hmk
        go_loopw [11] (fun i wr => ∃ q : Nat, q ≤ s.length ∧ i = .int .i64 q ∧ Blk wr w.heap.size 5 ((bB a 4 s (q * 4)).map bv).toArray ∧ bZ (4 * s.length / 8) (4 * s.length) (rU a 4 s) (q * 4) ∧ Below w.heap.size w wr) (fun i _ => s.length - (intOf i).toNat)
        case atStart => exact ⟨0, by omega, rfl, HBL0.out, fun h => by omega, HBE0.out⟩
        case round =>
          obtain ⟨q, hq, rfl, hblk, hz, hbel⟩ := hrel
          by_cases hlt : q < s.length
          · have hnn := HALL.out s[q] (List.getElem_mem hlt)
            have hnm := fun W => rnumber_k a (4 : Nat) s[q] W HK.out (by omega)
            have hxb := fun j hj => letter_bit a 4 HK.out (by omega) s HALL.out q j hlt hj
            have hxk := (nm_back a s[q] hnn).1
            rw [LL_k a 4 HK.out (by omega)] at hxk
            obtain ⟨x, hx⟩ : ∃ x : Nat, Nm a s[q] = (x : Int) := ⟨(Nm a s[q]).toNat, by omega⟩
            rw [hx] at hxb hnm hxk
            simp only [Int.toNat_natCast] at hxb hxk
            have HXB := Lib.hid hxb
            have HNM := Lib.hid hnm
            have HBLK := Lib.hid hblk
            have HZ := Lib.hid hz
            have HBEL := Lib.hid hbel
            have hxk' : x < 16 := hxk
            clear hxb hnm hblk hz hbel hx hnn hxk
            go_wp2_with fail
            refine (HNM.out _).mono ?_
            rintro e w' ⟨rfl, rfl⟩
            go_wp2_with fail
            go_loopw [13] (fun i wr => ∃ j : Nat, j ≤ 4 ∧ i = .int .i64 j ∧ Blk wr w.heap.size 5 ((bB a 4 s (q * 4 + j)).map bv).toArray ∧ bZ (4 * s.length / 8) (4 * s.length) (rU a 4 s) (q * 4 + j) ∧ Below w.heap.size w wr) (fun i _ => 4 - (intOf i).toNat)
            case atStart => exact ⟨0, by omega, rfl, HBLK.out, HZ.out, HBEL.out⟩
            case round =>
              obtain ⟨j, hj, rfl, hblk, hz, hbel⟩ := hrel
              by_cases hjk : j < 4
              · have hbit := HXB.out j hjk
                have hTq : q * 4 + j < 4 * s.length := by omega
                have hand : bits .and .i64 ((x : Int) / 2 ^ (3 - j)) 1 = ((x / 2 ^ (3 - j) % 2 : Nat) : Int) := by
                  rw [← and1_i64 _ (Nat.lt_of_le_of_lt (Nat.div_le_self _ _) (by omega))]
                  simp
                have hbit' : x / 2 ^ (3 - j) % 2 = rU a 4 s / 2 ^ (4 * s.length - (q * 4 + j) - 1) % 2 := hbit
                have HBIT := Lib.hid hbit'
                have HAND := Lib.hid hand
                have HTQ := Lib.hid hTq
                clear hbit' hand hTq
                have HBLK := Lib.hid hblk
                have HZ := Lib.hid hz
                have HBEL := Lib.hid hbel
                clear hbit hblk hz hbel
                obtain ⟨P, hP⟩ : ∃ P, P = q * 4 + j := ⟨_, rfl⟩
                have HP := Lib.hid hP
                have HBI2 := HBIT.out
                have HTQ2 := HTQ.out
                have HBLK2 := HBLK.out
                have HZ2 := HZ.out
                rw [← hP] at HBI2 HTQ2 HBLK2 HZ2
                have HB3 := Lib.hid HBI2
                have HT3 := Lib.hid HTQ2
                have HK3 := Lib.hid HBLK2
                have HZ3 := Lib.hid HZ2
                have hPi : (q : Int) * 4 + (j : Int) = (P : Int) := by omega
                clear hP HBIT HTQ HBLK HZ HBI2 HTQ2 HBLK2 HZ2
                by_cases hb : x / 2 ^ (3 - j) % 2 = 0
                · have hc : (bits .and .i64 ((x : Int) / 2 ^ (3 - j)) 1 == 0) = true := by rw [HAND.out, hb]; rfl
                  have hoff := bit_off (4 * s.length / 8) (4 * s.length) (rU a 4 s) P (by omega) HT3.out (by rw [← HB3.out]; exact hb) HZ3.out
                  have HOFF := Lib.hid hoff
                  clear hoff hb
                  go_wp2_with fail
                  go_roundw
                  case rel =>
                    refine ⟨j + 1, by omega, by go_num, ?_, ?_, HBEL.out⟩
                    · rw [show q * 4 + (j + 1) = P + 1 by have := HP.out; omega]
                      unfold bB
                      rw [HOFF.out.1]
                      exact HK3.out
                    · rw [show q * 4 + (j + 1) = P + 1 by have := HP.out; omega]
                      exact HOFF.out.2
                  case measure => simp [intOf]; omega
                · have hb1 : x / 2 ^ (3 - j) % 2 = 1 := by omega
                  have hc : (bits .and .i64 ((x : Int) / 2 ^ (3 - j)) 1 == 0) = false := by rw [HAND.out, hb1]; rfl
                  have hU1 := HB3.out
                  rw [hb1] at hU1
                  have HU1 := Lib.hid hU1.symm
                  clear hb hb1 hU1 HB3
                  by_cases hPN : N ≤ P / 8
                  · have hrest := bit_rest (4 * s.length / 8) (4 * s.length) (rU a 4 s) P (by omega) (by have := HN.out; omega) HT3.out HU1.out
                    have hrr : rR a 4 s ≠ 0 := by
                      unfold rR
                      rw [show 4 * s.length % 8 = 4 * s.length - 8 * (4 * s.length / 8) by omega]
                      exact hrest
                    have h2 := H1.out
                    rw [if_pos hrr] at h2
                    have H2 := Lib.hid h2
                    have hPN' : (N : Int) ≤ (P : Int) / 8 := by omega
                    clear hrest hrr h2 hPN
                    go_wp2_with fail
                    go_ret3
                    refine ⟨_, ?_, HBEL.out, fun h => ?_, fun _ => rfl⟩
                    · rw [H2.out]
                      show Ending.returned (.tuple #[_, .int .i64 62, .int .i64 _]) = Ending.returned (.tuple #[_, .int .i64 62, .int .i64 ((s.length - 1 : Nat) : Int)])
                      rw [show ((s.length - 1 : Nat) : Int) = (s.length : Int) - 1 by omega]
                      rfl
                    · rw [H2.out] at h; cases h
                  · obtain ⟨d, hd1, hd2, hd3⟩ := bB_on a 4 s P (by have := HN.out; omega) HU1.out
                    have hPN' : (P : Int) / 8 < (N : Int) := by omega
                    have hcell : wr.cell? ⟨w.heap.size, P / 8, none⟩ = some (bv d) := by
                      rw [HK3.out.cell]; simp [hd2]
                    have hfz := HK3.out.frozen (P / 8)
                    have HD3 := Lib.hid hd3
                    have HD2 := Lib.hid hd2
                    have HPN := Lib.hid hPN
                    clear hd2 hd3 hPN
                    have hv : Value.int .u8 (((d.toNat : Int) + 2 ^ (7 - P % 8)) % 256) = bv (UInt8.ofNat (d.toNat + 2 ^ (7 - P % 8))) := by
                      show _ = Value.int .u8 _
                      rw [UInt8.toNat_ofNat_of_lt' hd1]
                      have e1 : ((d.toNat + 2 ^ (7 - P % 8) : Nat) : Int) = (d.toNat : Int) + 2 ^ (7 - P % 8) := by simp
                      rw [← e1]
                      clear e1
                      have hd5 := hd1
                      generalize d.toNat + 2 ^ (7 - P % 8) = X at hd5 ⊢
                      congr 1
                      omega
                    have HV := Lib.hid hv
                    have hz3 := (bit_on (4 * s.length / 8) (4 * s.length) (rU a 4 s) P (by omega) (by have := HN.out; have := HPN.out; omega) HU1.out).2.2
                    have HZ4 := Lib.hid hz3
                    clear hv hz3
                    go_wp2_with fail
                    go_region
                    have hb1 : Blk (wr.setCell ⟨w.heap.size, P / 8, none⟩ (Value.int .u8 (((d.toNat : Int) + 2 ^ (7 - P % 8)) % 256))).drew w.heap.size 5 ((bB a 4 s (P + 1)).map bv).toArray := by
                      rw [HD3.out]
                      have := (HK3.out.set1 (P / 8) (Value.int .u8 (((d.toNat : Int) + 2 ^ (7 - P % 8)) % 256))).drew
                      rw [HV.out] at this ⊢
                      rw [List.map_set]
                      simpa using this
                    have HB4 := Lib.hid hb1
                    have hbe : Below w.heap.size w (wr.setCell ⟨w.heap.size, P / 8, none⟩ (Value.int .u8 (((d.toNat : Int) + 2 ^ (7 - P % 8)) % 256))).drew := below_drewN (HBEL.out.setCell (Nat.le_refl _) _) 1
                    have HB5 := Lib.hid hbe
                    clear hb1 hbe hcell hfz
                    go_wp2_with fail
                    go_roundw
                    case rel =>
                      refine ⟨j + 1, by omega, by go_num, ?_, ?_, HB5.out⟩
                      · rw [show q * 4 + (j + 1) = P + 1 by have := HP.out; omega]
                        exact HB4.out
                      · rw [show q * 4 + (j + 1) = P + 1 by have := HP.out; omega]
                        exact HZ4.out
                    case measure => simp [intOf]; omega
              · obtain rfl : j = 4 := by omega
                go_wp2_with fail
                go_roundw
                case rel => exact ⟨q + 1, by omega, by go_num, by rw [show (q + 1) * 4 = q * 4 + 4 from Nat.succ_mul q 4]; exact hblk, by rw [show (q + 1) * 4 = q * 4 + 4 from Nat.succ_mul q 4]; exact hz, hbel⟩
                case measure => simp [intOf]; omega
          · obtain rfl : q = s.length := by omega
            have hzz : bZ (4 * s.length / 8) (4 * s.length) (rU a 4 s) (4 * s.length) := by rw [Nat.mul_comm s.length] at hz; exact hz
            have he := bY_end (4 * s.length / 8) (4 * s.length) (rU a 4 s) (by omega) hzz
            have hrr : rR a 4 s = 0 := by
              unfold rR
              rw [show 4 * s.length % 8 = 4 * s.length - 8 * (4 * s.length / 8) by omega]
              exact he.2
            have h2 := H1.out
            rw [if_neg (by simpa using hrr)] at h2
            have hbe : bB a 4 s (s.length * 4) = (rE a 4 s).map UInt8.ofNat := by
              rw [Nat.mul_comm s.length]
              unfold bB rE
              rw [he.1, show 4 * s.length % 8 = 4 * s.length - 8 * (4 * s.length / 8) by omega]
            rw [hbe] at hblk
            have hel : ((rE a 4 s).map UInt8.ofNat).length = N := by simp only [rE, List.length_map, digs_length]; exact HN.out.symm
            have H2 := Lib.hid h2
            have HBK := Lib.hid hblk
            have HEL := Lib.hid hel
            clear hzz he hrr h2 hbe hel hblk hz
            go_wp2_with fail
            go_ret3
            refine ⟨_, by rw [H2.out]; rfl, hbel, fun _ => ?_, fun h => ?_⟩
            · rw [H2.out]
              exact ⟨some ⟨w.heap.size, 0, none⟩, N, by rw [HEL.out]; rfl, HBK.out.rb_map.mono HBK.out.lt, fun g o hA => by injection hA with hA; injection hA with hA; omega⟩
            · rw [H2.out] at h; exact absurd rfl h
set_option maxRecDepth 100000 in
set_option maxHeartbeats 4000000 in
theorem rread_5 (a : Int) (s : List UInt8) (w : World) (hk : Bt a = (5 : Nat)) (hn : s.length ≤ 1000000000) :
    Calls Try.prog 30 #[.int .i64 a, .string ⟨s.toArray⟩] w (RReadPost a 5 s w) := by
  have K : Hid (Bt a = ((5 : Nat) : Int)) := hk
  have HK := Lib.hid hk
  have hsz : (⟨s.toArray⟩ : ByteArray).size = s.length := rfl
  have hrm := fun W => rroom_k a 5 s.length W hk (by omega) (by omega) (by omega)
  rw [show (5 : Int) = ((5 : Nat) : Int) from rfl, rmr_nat 5 s.length (by omega)] at hrm
  have HRM := Lib.hid hrm
  clear hk hrm
  go_enter Try.func30, Try.ntmps30
  go_wp2_with (first
    | (go_at_call 12; refine (rbits_k _ _ _ K).mono ?_; rintro e w' ⟨rfl, rfl⟩))
  go_loop [8] (fun i => ∃ j : Nat, j ≤ s.length ∧ j ≤ badAt a s ∧ i = .int .i64 j) (fun i => s.length - (intOf i).toNat)
  case atStart => exact ⟨0, by omega, by omega, rfl⟩
  case round =>
    obtain ⟨j, hj, hjb, rfl⟩ := hrel
    by_cases hlt : j < s.length
    · by_cases hbad : badAt a s = j
      · have hneg := bad_here a s j hlt hbad
        have hrd := rd_bad a 5 s j hbad hlt
        have HRD := Lib.hid hrd
        have hnm := fun W => rnumber_k a (5 : Nat) s[j] W HK.out (by omega)
        generalize Nm a s[j] = z at *
        have HNM := Lib.hid hnm
        clear hrd hnm hbad hjb
        go_wp2_with fail
        refine (HNM.out _).mono ?_
        rintro e w' ⟨rfl, rfl⟩
        go_wp2_with fail
        go_ret3
        refine ⟨_, by rw [HRD.out]; rfl, Below.refl _ _, fun h => ?_, fun _ => rfl⟩
        rw [HRD.out] at h; cases h
      · have hnn := bad_not a s j hlt (by omega)
        have hnm := fun W => rnumber_k a (5 : Nat) s[j] W HK.out (by omega)
        generalize Nm a s[j] = z at *
        have HNM := Lib.hid hnm
        clear hnm
        go_wp2_with fail
        refine (HNM.out _).mono ?_
        rintro e w' ⟨rfl, rfl⟩
        go_wp2_with fail
        go_round
        case rel => exact ⟨j + 1, by omega, by omega, by go_num⟩
        case measure => simp [intOf]; omega
    · obtain rfl : j = s.length := by omega
      have hbad : ¬ badAt a s < s.length := by omega
      have hall := badAt_all a s hbad
      have hrd : rd a 5 s = if 5 ≤ 5 * s.length % 8 then ([], 61, s.length) else if rR a 5 s ≠ 0 then ([], 62, s.length - 1) else ((rE a 5 s).map UInt8.ofNat, 0, 0) := by
        unfold rd; rw [if_neg hbad]
      have HRD := Lib.hid hrd
      have HALL := Lib.hid hall
      clear hbad hall hrd hjb
      by_cases hodd : 5 ≤ 5 * s.length % 8
      · have h1 := HRD.out
        rw [if_pos hodd] at h1
        have hr := HRM.out
        rw [if_neg (by omega)] at hr
        have HR2 := Lib.hid hr
        have H1 := Lib.hid h1
        clear h1 hr HRM HRD
        go_wp2_with fail
        refine (HR2.out _).mono ?_
        rintro e w' ⟨rfl, rfl⟩
        go_wp2_with fail
        go_ret3
        refine ⟨_, by rw [H1.out]; rfl, Below.refl _ _, fun h => ?_, fun _ => rfl⟩
        rw [H1.out] at h; cases h
      · have h1 := HRD.out
        rw [if_neg hodd] at h1
        have hr := HRM.out
        rw [if_pos (by omega)] at hr
        have HR2 := Lib.hid hr
        have H1 := Lib.hid h1
        have hn8 : 5 * s.length / 8 ≤ 140737488355320 := by have := Nat.div_le_self (5 * s.length) 8; omega
        have hmk := fun W => make_bytes (5 * s.length / 8) (5 * s.length / 8) (Nat.le_refl _) (by omega) W
        have hT8 : 8 * (5 * s.length / 8) ≤ 5 * s.length := by omega
        have hT9 : 5 * s.length < 8 * (5 * s.length / 8) + 8 := by omega
        have HT8 := Lib.hid hT8
        have HT9 := Lib.hid hT9
        clear h1 hr HRM HRD hT8 hT9
        obtain ⟨N, hN⟩ : ∃ N, N = 5 * s.length / 8 := ⟨_, rfl⟩
        rw [← hN] at hmk hn8
        rw [← hN] at HT8 HT9 HR2
        have HN := Lib.hid hN
        clear hN
        go_wp2_with fail
        refine (HR2.out _).mono ?_
        rintro e w' ⟨rfl, rfl⟩
        go_wp2_with fail
        have hblk0 : Blk (w.alloc (.cells (zrow N).toArray 5)) w.heap.size 5 ((bB a 5 s (0 * 5)).map bv).toArray := by
          have e : (bB a 5 s (0 * 5)).map bv = zrow N := by
            unfold bB zrow
            rw [Nat.zero_mul, bY_zero _ _ _ (rU_lt a 5 HK.out (by omega) s HALL.out), digs_zero, ← HN.out]
            simp
          rw [e]
          exact Blk.new w _ _
        have hbel0 : Below w.heap.size w (w.alloc (.cells (zrow N).toArray 5)) := (Below.refl _ _).alloc (Nat.le_refl _) _
        generalize w.alloc (.cells (zrow N).toArray 5) = W0 at *
        have HBL0 := Lib.hid hblk0
        have HBE0 := Lib.hid hbel0
        clear hblk0 hbel0 hmk
        go_loopw [11] (fun i wr => ∃ q : Nat, q ≤ s.length ∧ i = .int .i64 q ∧ Blk wr w.heap.size 5 ((bB a 5 s (q * 5)).map bv).toArray ∧ bZ (5 * s.length / 8) (5 * s.length) (rU a 5 s) (q * 5) ∧ Below w.heap.size w wr) (fun i _ => s.length - (intOf i).toNat)
        case atStart => exact ⟨0, by omega, rfl, HBL0.out, fun h => by omega, HBE0.out⟩
        case round =>
          obtain ⟨q, hq, rfl, hblk, hz, hbel⟩ := hrel
          by_cases hlt : q < s.length
          · have hnn := HALL.out s[q] (List.getElem_mem hlt)
            have hnm := fun W => rnumber_k a (5 : Nat) s[q] W HK.out (by omega)
            have hxb := fun j hj => letter_bit a 5 HK.out (by omega) s HALL.out q j hlt hj
            have hxk := (nm_back a s[q] hnn).1
            rw [LL_k a 5 HK.out (by omega)] at hxk
            obtain ⟨x, hx⟩ : ∃ x : Nat, Nm a s[q] = (x : Int) := ⟨(Nm a s[q]).toNat, by omega⟩
            rw [hx] at hxb hnm hxk
            simp only [Int.toNat_natCast] at hxb hxk
            have HXB := Lib.hid hxb
            have HNM := Lib.hid hnm
            have HBLK := Lib.hid hblk
            have HZ := Lib.hid hz
            have HBEL := Lib.hid hbel
            have hxk' : x < 32 := hxk
            clear hxb hnm hblk hz hbel hx hnn hxk
            go_wp2_with fail
            refine (HNM.out _).mono ?_
            rintro e w' ⟨rfl, rfl⟩
            go_wp2_with fail
            go_loopw [13] (fun i wr => ∃ j : Nat, j ≤ 5 ∧ i = .int .i64 j ∧ Blk wr w.heap.size 5 ((bB a 5 s (q * 5 + j)).map bv).toArray ∧ bZ (5 * s.length / 8) (5 * s.length) (rU a 5 s) (q * 5 + j) ∧ Below w.heap.size w wr) (fun i _ => 5 - (intOf i).toNat)
            case atStart => exact ⟨0, by omega, rfl, HBLK.out, HZ.out, HBEL.out⟩
            case round =>
              obtain ⟨j, hj, rfl, hblk, hz, hbel⟩ := hrel
              by_cases hjk : j < 5
              · have hbit := HXB.out j hjk
                have hTq : q * 5 + j < 5 * s.length := by omega
                have hand : bits .and .i64 ((x : Int) / 2 ^ (4 - j)) 1 = ((x / 2 ^ (4 - j) % 2 : Nat) : Int) := by
                  rw [← and1_i64 _ (Nat.lt_of_le_of_lt (Nat.div_le_self _ _) (by omega))]
                  simp
                have hbit' : x / 2 ^ (4 - j) % 2 = rU a 5 s / 2 ^ (5 * s.length - (q * 5 + j) - 1) % 2 := hbit
                have HBIT := Lib.hid hbit'
                have HAND := Lib.hid hand
                have HTQ := Lib.hid hTq
                clear hbit' hand hTq
                have HBLK := Lib.hid hblk
                have HZ := Lib.hid hz
                have HBEL := Lib.hid hbel
                clear hbit hblk hz hbel
                obtain ⟨P, hP⟩ : ∃ P, P = q * 5 + j := ⟨_, rfl⟩
                have HP := Lib.hid hP
                have HBI2 := HBIT.out
                have HTQ2 := HTQ.out
                have HBLK2 := HBLK.out
                have HZ2 := HZ.out
                rw [← hP] at HBI2 HTQ2 HBLK2 HZ2
                have HB3 := Lib.hid HBI2
                have HT3 := Lib.hid HTQ2
                have HK3 := Lib.hid HBLK2
                have HZ3 := Lib.hid HZ2
                have hPi : (q : Int) * 5 + (j : Int) = (P : Int) := by omega
                clear hP HBIT HTQ HBLK HZ HBI2 HTQ2 HBLK2 HZ2
                by_cases hb : x / 2 ^ (4 - j) % 2 = 0
                · have hc : (bits .and .i64 ((x : Int) / 2 ^ (4 - j)) 1 == 0) = true := by rw [HAND.out, hb]; rfl
                  have hoff := bit_off (5 * s.length / 8) (5 * s.length) (rU a 5 s) P (by omega) HT3.out (by rw [← HB3.out]; exact hb) HZ3.out
                  have HOFF := Lib.hid hoff
                  clear hoff hb
                  go_wp2_with fail
                  go_roundw
                  case rel =>
                    refine ⟨j + 1, by omega, by go_num, ?_, ?_, HBEL.out⟩
                    · rw [show q * 5 + (j + 1) = P + 1 by have := HP.out; omega]
                      unfold bB
                      rw [HOFF.out.1]
                      exact HK3.out
                    · rw [show q * 5 + (j + 1) = P + 1 by have := HP.out; omega]
                      exact HOFF.out.2
                  case measure => simp [intOf]; omega
                · have hb1 : x / 2 ^ (4 - j) % 2 = 1 := by omega
                  have hc : (bits .and .i64 ((x : Int) / 2 ^ (4 - j)) 1 == 0) = false := by rw [HAND.out, hb1]; rfl
                  have hU1 := HB3.out
                  rw [hb1] at hU1
                  have HU1 := Lib.hid hU1.symm
                  clear hb hb1 hU1 HB3
                  by_cases hPN : N ≤ P / 8
                  · have hrest := bit_rest (5 * s.length / 8) (5 * s.length) (rU a 5 s) P (by omega) (by have := HN.out; omega) HT3.out HU1.out
                    have hrr : rR a 5 s ≠ 0 := by
                      unfold rR
                      rw [show 5 * s.length % 8 = 5 * s.length - 8 * (5 * s.length / 8) by omega]
                      exact hrest
                    have h2 := H1.out
                    rw [if_pos hrr] at h2
                    have H2 := Lib.hid h2
                    have hPN' : (N : Int) ≤ (P : Int) / 8 := by omega
                    clear hrest hrr h2 hPN
                    go_wp2_with fail
                    go_ret3
                    refine ⟨_, ?_, HBEL.out, fun h => ?_, fun _ => rfl⟩
                    · rw [H2.out]
                      show Ending.returned (.tuple #[_, .int .i64 62, .int .i64 _]) = Ending.returned (.tuple #[_, .int .i64 62, .int .i64 ((s.length - 1 : Nat) : Int)])
                      rw [show ((s.length - 1 : Nat) : Int) = (s.length : Int) - 1 by omega]
                      rfl
                    · rw [H2.out] at h; cases h
                  · obtain ⟨d, hd1, hd2, hd3⟩ := bB_on a 5 s P (by have := HN.out; omega) HU1.out
                    have hPN' : (P : Int) / 8 < (N : Int) := by omega
                    have hcell : wr.cell? ⟨w.heap.size, P / 8, none⟩ = some (bv d) := by
                      rw [HK3.out.cell]; simp [hd2]
                    have hfz := HK3.out.frozen (P / 8)
                    have HD3 := Lib.hid hd3
                    have HD2 := Lib.hid hd2
                    have HPN := Lib.hid hPN
                    clear hd2 hd3 hPN
                    have hv : Value.int .u8 (((d.toNat : Int) + 2 ^ (7 - P % 8)) % 256) = bv (UInt8.ofNat (d.toNat + 2 ^ (7 - P % 8))) := by
                      show _ = Value.int .u8 _
                      rw [UInt8.toNat_ofNat_of_lt' hd1]
                      have e1 : ((d.toNat + 2 ^ (7 - P % 8) : Nat) : Int) = (d.toNat : Int) + 2 ^ (7 - P % 8) := by simp
                      rw [← e1]
                      clear e1
                      have hd5 := hd1
                      generalize d.toNat + 2 ^ (7 - P % 8) = X at hd5 ⊢
                      congr 1
                      omega
                    have HV := Lib.hid hv
                    have hz3 := (bit_on (5 * s.length / 8) (5 * s.length) (rU a 5 s) P (by omega) (by have := HN.out; have := HPN.out; omega) HU1.out).2.2
                    have HZ4 := Lib.hid hz3
                    clear hv hz3
                    go_wp2_with fail
                    go_region
                    have hb1 : Blk (wr.setCell ⟨w.heap.size, P / 8, none⟩ (Value.int .u8 (((d.toNat : Int) + 2 ^ (7 - P % 8)) % 256))).drew w.heap.size 5 ((bB a 5 s (P + 1)).map bv).toArray := by
                      rw [HD3.out]
                      have := (HK3.out.set1 (P / 8) (Value.int .u8 (((d.toNat : Int) + 2 ^ (7 - P % 8)) % 256))).drew
                      rw [HV.out] at this ⊢
                      rw [List.map_set]
                      simpa using this
                    have HB4 := Lib.hid hb1
                    have hbe : Below w.heap.size w (wr.setCell ⟨w.heap.size, P / 8, none⟩ (Value.int .u8 (((d.toNat : Int) + 2 ^ (7 - P % 8)) % 256))).drew := below_drewN (HBEL.out.setCell (Nat.le_refl _) _) 1
                    have HB5 := Lib.hid hbe
                    clear hb1 hbe hcell hfz
                    go_wp2_with fail
                    go_roundw
                    case rel =>
                      refine ⟨j + 1, by omega, by go_num, ?_, ?_, HB5.out⟩
                      · rw [show q * 5 + (j + 1) = P + 1 by have := HP.out; omega]
                        exact HB4.out
                      · rw [show q * 5 + (j + 1) = P + 1 by have := HP.out; omega]
                        exact HZ4.out
                    case measure => simp [intOf]; omega
              · obtain rfl : j = 5 := by omega
                go_wp2_with fail
                go_roundw
                case rel => exact ⟨q + 1, by omega, by go_num, by rw [show (q + 1) * 5 = q * 5 + 5 from Nat.succ_mul q 5]; exact hblk, by rw [show (q + 1) * 5 = q * 5 + 5 from Nat.succ_mul q 5]; exact hz, hbel⟩
                case measure => simp [intOf]; omega
          · obtain rfl : q = s.length := by omega
            have hzz : bZ (5 * s.length / 8) (5 * s.length) (rU a 5 s) (5 * s.length) := by rw [Nat.mul_comm s.length] at hz; exact hz
            have he := bY_end (5 * s.length / 8) (5 * s.length) (rU a 5 s) (by omega) hzz
            have hrr : rR a 5 s = 0 := by
              unfold rR
              rw [show 5 * s.length % 8 = 5 * s.length - 8 * (5 * s.length / 8) by omega]
              exact he.2
            have h2 := H1.out
            rw [if_neg (by simpa using hrr)] at h2
            have hbe : bB a 5 s (s.length * 5) = (rE a 5 s).map UInt8.ofNat := by
              rw [Nat.mul_comm s.length]
              unfold bB rE
              rw [he.1, show 5 * s.length % 8 = 5 * s.length - 8 * (5 * s.length / 8) by omega]
            rw [hbe] at hblk
            have hel : ((rE a 5 s).map UInt8.ofNat).length = N := by simp only [rE, List.length_map, digs_length]; exact HN.out.symm
            have H2 := Lib.hid h2
            have HBK := Lib.hid hblk
            have HEL := Lib.hid hel
            clear hzz he hrr h2 hbe hel hblk hz
            go_wp2_with fail
            go_ret3
            refine ⟨_, by rw [H2.out]; rfl, hbel, fun _ => ?_, fun h => ?_⟩
            · rw [H2.out]
              exact ⟨some ⟨w.heap.size, 0, none⟩, N, by rw [HEL.out]; rfl, HBK.out.rb_map.mono HBK.out.lt, fun g o hA => by injection hA with hA; injection hA with hA; omega⟩
            · rw [H2.out] at h; exact absurd rfl h
set_option maxRecDepth 100000 in
set_option maxHeartbeats 4000000 in
theorem rread_6 (a : Int) (s : List UInt8) (w : World) (hk : Bt a = (6 : Nat)) (hn : s.length ≤ 1000000000) :
    Calls Try.prog 30 #[.int .i64 a, .string ⟨s.toArray⟩] w (RReadPost a 6 s w) := by
  have K : Hid (Bt a = ((6 : Nat) : Int)) := hk
  have HK := Lib.hid hk
  have hsz : (⟨s.toArray⟩ : ByteArray).size = s.length := rfl
  have hrm := fun W => rroom_k a 6 s.length W hk (by omega) (by omega) (by omega)
  rw [show (6 : Int) = ((6 : Nat) : Int) from rfl, rmr_nat 6 s.length (by omega)] at hrm
  have HRM := Lib.hid hrm
  clear hk hrm
  go_enter Try.func30, Try.ntmps30
  go_wp2_with (first
    | (go_at_call 12; refine (rbits_k _ _ _ K).mono ?_; rintro e w' ⟨rfl, rfl⟩))
  go_loop [8] (fun i => ∃ j : Nat, j ≤ s.length ∧ j ≤ badAt a s ∧ i = .int .i64 j) (fun i => s.length - (intOf i).toNat)
  case atStart => exact ⟨0, by omega, by omega, rfl⟩
  case round =>
    obtain ⟨j, hj, hjb, rfl⟩ := hrel
    by_cases hlt : j < s.length
    · by_cases hbad : badAt a s = j
      · have hneg := bad_here a s j hlt hbad
        have hrd := rd_bad a 6 s j hbad hlt
        have HRD := Lib.hid hrd
        have hnm := fun W => rnumber_k a (6 : Nat) s[j] W HK.out (by omega)
        generalize Nm a s[j] = z at *
        have HNM := Lib.hid hnm
        clear hrd hnm hbad hjb
        go_wp2_with fail
        refine (HNM.out _).mono ?_
        rintro e w' ⟨rfl, rfl⟩
        go_wp2_with fail
        go_ret3
        refine ⟨_, by rw [HRD.out]; rfl, Below.refl _ _, fun h => ?_, fun _ => rfl⟩
        rw [HRD.out] at h; cases h
      · have hnn := bad_not a s j hlt (by omega)
        have hnm := fun W => rnumber_k a (6 : Nat) s[j] W HK.out (by omega)
        generalize Nm a s[j] = z at *
        have HNM := Lib.hid hnm
        clear hnm
        go_wp2_with fail
        refine (HNM.out _).mono ?_
        rintro e w' ⟨rfl, rfl⟩
        go_wp2_with fail
        go_round
        case rel => exact ⟨j + 1, by omega, by omega, by go_num⟩
        case measure => simp [intOf]; omega
    · obtain rfl : j = s.length := by omega
      have hbad : ¬ badAt a s < s.length := by omega
      have hall := badAt_all a s hbad
      have hrd : rd a 6 s = if 6 ≤ 6 * s.length % 8 then ([], 61, s.length) else if rR a 6 s ≠ 0 then ([], 62, s.length - 1) else ((rE a 6 s).map UInt8.ofNat, 0, 0) := by
        unfold rd; rw [if_neg hbad]
      have HRD := Lib.hid hrd
      have HALL := Lib.hid hall
      clear hbad hall hrd hjb
      by_cases hodd : 6 ≤ 6 * s.length % 8
      · have h1 := HRD.out
        rw [if_pos hodd] at h1
        have hr := HRM.out
        rw [if_neg (by omega)] at hr
        have HR2 := Lib.hid hr
        have H1 := Lib.hid h1
        clear h1 hr HRM HRD
        go_wp2_with fail
        refine (HR2.out _).mono ?_
        rintro e w' ⟨rfl, rfl⟩
        go_wp2_with fail
        go_ret3
        refine ⟨_, by rw [H1.out]; rfl, Below.refl _ _, fun h => ?_, fun _ => rfl⟩
        rw [H1.out] at h; cases h
      · have h1 := HRD.out
        rw [if_neg hodd] at h1
        have hr := HRM.out
        rw [if_pos (by omega)] at hr
        have HR2 := Lib.hid hr
        have H1 := Lib.hid h1
        have hn8 : 6 * s.length / 8 ≤ 140737488355320 := by have := Nat.div_le_self (6 * s.length) 8; omega
        have hmk := fun W => make_bytes (6 * s.length / 8) (6 * s.length / 8) (Nat.le_refl _) (by omega) W
        have hT8 : 8 * (6 * s.length / 8) ≤ 6 * s.length := by omega
        have hT9 : 6 * s.length < 8 * (6 * s.length / 8) + 8 := by omega
        have HT8 := Lib.hid hT8
        have HT9 := Lib.hid hT9
        clear h1 hr HRM HRD hT8 hT9
        obtain ⟨N, hN⟩ : ∃ N, N = 6 * s.length / 8 := ⟨_, rfl⟩
        rw [← hN] at hmk hn8
        rw [← hN] at HT8 HT9 HR2
        have HN := Lib.hid hN
        clear hN
        go_wp2_with fail
        refine (HR2.out _).mono ?_
        rintro e w' ⟨rfl, rfl⟩
        go_wp2_with fail
        have hblk0 : Blk (w.alloc (.cells (zrow N).toArray 5)) w.heap.size 5 ((bB a 6 s (0 * 6)).map bv).toArray := by
          have e : (bB a 6 s (0 * 6)).map bv = zrow N := by
            unfold bB zrow
            rw [Nat.zero_mul, bY_zero _ _ _ (rU_lt a 6 HK.out (by omega) s HALL.out), digs_zero, ← HN.out]
            simp
          rw [e]
          exact Blk.new w _ _
        have hbel0 : Below w.heap.size w (w.alloc (.cells (zrow N).toArray 5)) := (Below.refl _ _).alloc (Nat.le_refl _) _
        generalize w.alloc (.cells (zrow N).toArray 5) = W0 at *
        have HBL0 := Lib.hid hblk0
        have HBE0 := Lib.hid hbel0
        clear hblk0 hbel0 hmk
        go_loopw [11] (fun i wr => ∃ q : Nat, q ≤ s.length ∧ i = .int .i64 q ∧ Blk wr w.heap.size 5 ((bB a 6 s (q * 6)).map bv).toArray ∧ bZ (6 * s.length / 8) (6 * s.length) (rU a 6 s) (q * 6) ∧ Below w.heap.size w wr) (fun i _ => s.length - (intOf i).toNat)
        case atStart => exact ⟨0, by omega, rfl, HBL0.out, fun h => by omega, HBE0.out⟩
        case round =>
          obtain ⟨q, hq, rfl, hblk, hz, hbel⟩ := hrel
          by_cases hlt : q < s.length
          · have hnn := HALL.out s[q] (List.getElem_mem hlt)
            have hnm := fun W => rnumber_k a (6 : Nat) s[q] W HK.out (by omega)
            have hxb := fun j hj => letter_bit a 6 HK.out (by omega) s HALL.out q j hlt hj
            have hxk := (nm_back a s[q] hnn).1
            rw [LL_k a 6 HK.out (by omega)] at hxk
            obtain ⟨x, hx⟩ : ∃ x : Nat, Nm a s[q] = (x : Int) := ⟨(Nm a s[q]).toNat, by omega⟩
            rw [hx] at hxb hnm hxk
            simp only [Int.toNat_natCast] at hxb hxk
            have HXB := Lib.hid hxb
            have HNM := Lib.hid hnm
            have HBLK := Lib.hid hblk
            have HZ := Lib.hid hz
            have HBEL := Lib.hid hbel
            have hxk' : x < 64 := hxk
            clear hxb hnm hblk hz hbel hx hnn hxk
            go_wp2_with fail
            refine (HNM.out _).mono ?_
            rintro e w' ⟨rfl, rfl⟩
            go_wp2_with fail
            go_loopw [13] (fun i wr => ∃ j : Nat, j ≤ 6 ∧ i = .int .i64 j ∧ Blk wr w.heap.size 5 ((bB a 6 s (q * 6 + j)).map bv).toArray ∧ bZ (6 * s.length / 8) (6 * s.length) (rU a 6 s) (q * 6 + j) ∧ Below w.heap.size w wr) (fun i _ => 6 - (intOf i).toNat)
            case atStart => exact ⟨0, by omega, rfl, HBLK.out, HZ.out, HBEL.out⟩
            case round =>
              obtain ⟨j, hj, rfl, hblk, hz, hbel⟩ := hrel
              by_cases hjk : j < 6
              · have hbit := HXB.out j hjk
                have hTq : q * 6 + j < 6 * s.length := by omega
                have hand : bits .and .i64 ((x : Int) / 2 ^ (5 - j)) 1 = ((x / 2 ^ (5 - j) % 2 : Nat) : Int) := by
                  rw [← and1_i64 _ (Nat.lt_of_le_of_lt (Nat.div_le_self _ _) (by omega))]
                  simp
                have hbit' : x / 2 ^ (5 - j) % 2 = rU a 6 s / 2 ^ (6 * s.length - (q * 6 + j) - 1) % 2 := hbit
                have HBIT := Lib.hid hbit'
                have HAND := Lib.hid hand
                have HTQ := Lib.hid hTq
                clear hbit' hand hTq
                have HBLK := Lib.hid hblk
                have HZ := Lib.hid hz
                have HBEL := Lib.hid hbel
                clear hbit hblk hz hbel
                obtain ⟨P, hP⟩ : ∃ P, P = q * 6 + j := ⟨_, rfl⟩
                have HP := Lib.hid hP
                have HBI2 := HBIT.out
                have HTQ2 := HTQ.out
                have HBLK2 := HBLK.out
                have HZ2 := HZ.out
                rw [← hP] at HBI2 HTQ2 HBLK2 HZ2
                have HB3 := Lib.hid HBI2
                have HT3 := Lib.hid HTQ2
                have HK3 := Lib.hid HBLK2
                have HZ3 := Lib.hid HZ2
                have hPi : (q : Int) * 6 + (j : Int) = (P : Int) := by omega
                clear hP HBIT HTQ HBLK HZ HBI2 HTQ2 HBLK2 HZ2
                by_cases hb : x / 2 ^ (5 - j) % 2 = 0
                · have hc : (bits .and .i64 ((x : Int) / 2 ^ (5 - j)) 1 == 0) = true := by rw [HAND.out, hb]; rfl
                  have hoff := bit_off (6 * s.length / 8) (6 * s.length) (rU a 6 s) P (by omega) HT3.out (by rw [← HB3.out]; exact hb) HZ3.out
                  have HOFF := Lib.hid hoff
                  clear hoff hb
                  go_wp2_with fail
                  go_roundw
                  case rel =>
                    refine ⟨j + 1, by omega, by go_num, ?_, ?_, HBEL.out⟩
                    · rw [show q * 6 + (j + 1) = P + 1 by have := HP.out; omega]
                      unfold bB
                      rw [HOFF.out.1]
                      exact HK3.out
                    · rw [show q * 6 + (j + 1) = P + 1 by have := HP.out; omega]
                      exact HOFF.out.2
                  case measure => simp [intOf]; omega
                · have hb1 : x / 2 ^ (5 - j) % 2 = 1 := by omega
                  have hc : (bits .and .i64 ((x : Int) / 2 ^ (5 - j)) 1 == 0) = false := by rw [HAND.out, hb1]; rfl
                  have hU1 := HB3.out
                  rw [hb1] at hU1
                  have HU1 := Lib.hid hU1.symm
                  clear hb hb1 hU1 HB3
                  by_cases hPN : N ≤ P / 8
                  · have hrest := bit_rest (6 * s.length / 8) (6 * s.length) (rU a 6 s) P (by omega) (by have := HN.out; omega) HT3.out HU1.out
                    have hrr : rR a 6 s ≠ 0 := by
                      unfold rR
                      rw [show 6 * s.length % 8 = 6 * s.length - 8 * (6 * s.length / 8) by omega]
                      exact hrest
                    have h2 := H1.out
                    rw [if_pos hrr] at h2
                    have H2 := Lib.hid h2
                    have hPN' : (N : Int) ≤ (P : Int) / 8 := by omega
                    clear hrest hrr h2 hPN
                    go_wp2_with fail
                    go_ret3
                    refine ⟨_, ?_, HBEL.out, fun h => ?_, fun _ => rfl⟩
                    · rw [H2.out]
                      show Ending.returned (.tuple #[_, .int .i64 62, .int .i64 _]) = Ending.returned (.tuple #[_, .int .i64 62, .int .i64 ((s.length - 1 : Nat) : Int)])
                      rw [show ((s.length - 1 : Nat) : Int) = (s.length : Int) - 1 by omega]
                      rfl
                    · rw [H2.out] at h; cases h
                  · obtain ⟨d, hd1, hd2, hd3⟩ := bB_on a 6 s P (by have := HN.out; omega) HU1.out
                    have hPN' : (P : Int) / 8 < (N : Int) := by omega
                    have hcell : wr.cell? ⟨w.heap.size, P / 8, none⟩ = some (bv d) := by
                      rw [HK3.out.cell]; simp [hd2]
                    have hfz := HK3.out.frozen (P / 8)
                    have HD3 := Lib.hid hd3
                    have HD2 := Lib.hid hd2
                    have HPN := Lib.hid hPN
                    clear hd2 hd3 hPN
                    have hv : Value.int .u8 (((d.toNat : Int) + 2 ^ (7 - P % 8)) % 256) = bv (UInt8.ofNat (d.toNat + 2 ^ (7 - P % 8))) := by
                      show _ = Value.int .u8 _
                      rw [UInt8.toNat_ofNat_of_lt' hd1]
                      have e1 : ((d.toNat + 2 ^ (7 - P % 8) : Nat) : Int) = (d.toNat : Int) + 2 ^ (7 - P % 8) := by simp
                      rw [← e1]
                      clear e1
                      have hd5 := hd1
                      generalize d.toNat + 2 ^ (7 - P % 8) = X at hd5 ⊢
                      congr 1
                      omega
                    have HV := Lib.hid hv
                    have hz3 := (bit_on (6 * s.length / 8) (6 * s.length) (rU a 6 s) P (by omega) (by have := HN.out; have := HPN.out; omega) HU1.out).2.2
                    have HZ4 := Lib.hid hz3
                    clear hv hz3
                    go_wp2_with fail
                    go_region
                    have hb1 : Blk (wr.setCell ⟨w.heap.size, P / 8, none⟩ (Value.int .u8 (((d.toNat : Int) + 2 ^ (7 - P % 8)) % 256))).drew w.heap.size 5 ((bB a 6 s (P + 1)).map bv).toArray := by
                      rw [HD3.out]
                      have := (HK3.out.set1 (P / 8) (Value.int .u8 (((d.toNat : Int) + 2 ^ (7 - P % 8)) % 256))).drew
                      rw [HV.out] at this ⊢
                      rw [List.map_set]
                      simpa using this
                    have HB4 := Lib.hid hb1
                    have hbe : Below w.heap.size w (wr.setCell ⟨w.heap.size, P / 8, none⟩ (Value.int .u8 (((d.toNat : Int) + 2 ^ (7 - P % 8)) % 256))).drew := below_drewN (HBEL.out.setCell (Nat.le_refl _) _) 1
                    have HB5 := Lib.hid hbe
                    clear hb1 hbe hcell hfz
                    go_wp2_with fail
                    go_roundw
                    case rel =>
                      refine ⟨j + 1, by omega, by go_num, ?_, ?_, HB5.out⟩
                      · rw [show q * 6 + (j + 1) = P + 1 by have := HP.out; omega]
                        exact HB4.out
                      · rw [show q * 6 + (j + 1) = P + 1 by have := HP.out; omega]
                        exact HZ4.out
                    case measure => simp [intOf]; omega
              · obtain rfl : j = 6 := by omega
                go_wp2_with fail
                go_roundw
                case rel => exact ⟨q + 1, by omega, by go_num, by rw [show (q + 1) * 6 = q * 6 + 6 from Nat.succ_mul q 6]; exact hblk, by rw [show (q + 1) * 6 = q * 6 + 6 from Nat.succ_mul q 6]; exact hz, hbel⟩
                case measure => simp [intOf]; omega
          · obtain rfl : q = s.length := by omega
            have hzz : bZ (6 * s.length / 8) (6 * s.length) (rU a 6 s) (6 * s.length) := by rw [Nat.mul_comm s.length] at hz; exact hz
            have he := bY_end (6 * s.length / 8) (6 * s.length) (rU a 6 s) (by omega) hzz
            have hrr : rR a 6 s = 0 := by
              unfold rR
              rw [show 6 * s.length % 8 = 6 * s.length - 8 * (6 * s.length / 8) by omega]
              exact he.2
            have h2 := H1.out
            rw [if_neg (by simpa using hrr)] at h2
            have hbe : bB a 6 s (s.length * 6) = (rE a 6 s).map UInt8.ofNat := by
              rw [Nat.mul_comm s.length]
              unfold bB rE
              rw [he.1, show 6 * s.length % 8 = 6 * s.length - 8 * (6 * s.length / 8) by omega]
            rw [hbe] at hblk
            have hel : ((rE a 6 s).map UInt8.ofNat).length = N := by simp only [rE, List.length_map, digs_length]; exact HN.out.symm
            have H2 := Lib.hid h2
            have HBK := Lib.hid hblk
            have HEL := Lib.hid hel
            clear hzz he hrr h2 hbe hel hblk hz
            go_wp2_with fail
            go_ret3
            refine ⟨_, by rw [H2.out]; rfl, hbel, fun _ => ?_, fun h => ?_⟩
            · rw [H2.out]
              exact ⟨some ⟨w.heap.size, 0, none⟩, N, by rw [HEL.out]; rfl, HBK.out.rb_map.mono HBK.out.lt, fun g o hA => by injection hA with hA; injection hA with hA; omega⟩
            · rw [H2.out] at h; exact absurd rfl h
theorem rread_k (a : Int) (k : Nat) (s : List UInt8) (w : World) (hk : Bt a = k) (h0 : k = 4 ∨ k = 5 ∨ k = 6) (hn : s.length ≤ 1000000000) :
    Calls Try.prog 30 #[.int .i64 a, .string ⟨s.toArray⟩] w (RReadPost a k s w) := by
  rcases h0 with rfl | rfl | rfl
  · exact rread_4 a s w hk hn
  · exact rread_5 a s w hk hn
  · exact rread_6 a s w hk hn
end Go.Proofs.Ytdlplmflimleaaa
