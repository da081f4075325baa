/- The contract of base.Read. -/
import Derived.Test.YtdlplmflimleaaaBaseD
import Derived.Test.YtdlplmflimleaaaBaseQ
import Derived.Test.YtdlplmflimleaaaBytesAll
namespace Go.Proofs.Ytdlplmflimleaaa
open Go.RowKit
set_option linter.unusedSimpArgs false
set_option linter.unusedVariables false

/-- A Spot as an error. -/
abbrev spotE (no at_ : Int) : Value := .iface 79 (.agg #[.int .i64 no, .int .i64 at_])

theorem or_shift (k r x : Nat) (hk : k ≤ 8) (hr : r < 65536) (hx : x < 2 ^ k) : bits .or .u32 ((r * 2 ^ k : Nat) : Int) (x : Int) = ((r * 2 ^ k + x : Nat) : Int) := by
  have hp : 2 ^ k ≤ 2 ^ 8 := Nat.pow_le_pow_right (by omega) hk
  have hm : r * 2 ^ k ≤ r * 2 ^ 8 := Nat.mul_le_mul_left _ hp
  have h1 : (BitVec.ofInt 32 ((r * 2 ^ k : Nat) : Int)).toNat = r * 2 ^ k := by
    rw [BitVec.ofInt_natCast, BitVec.toNat_ofNat]; exact Nat.mod_eq_of_lt (by omega)
  have h2 : (BitVec.ofInt 32 (x : Int)).toNat = x := by
    rw [BitVec.ofInt_natCast, BitVec.toNat_ofNat]; exact Nat.mod_eq_of_lt (by omega)
  show IntKind.u32.wrap ((BitVec.ofInt 32 ((r * 2 ^ k : Nat) : Int) ||| BitVec.ofInt 32 (x : Int)).toNat : Int) = _
  rw [BitVec.toNat_or, h1, h2, IntKind.wrap_u32]
  have := Nat.two_pow_add_eq_or_of_lt (b := x) (i := k) hx r
  rw [Nat.mul_comm r, ← this]
  have : 2 ^ k * r = r * 2 ^ k := Nat.mul_comm _ _
  omega

theorem take_nms (a : Int) (s : List UInt8) (j : Nat) (h : j < s.length) : nms a (s.take (j + 1)) = nms a (s.take j) ++ [(Nm a s[j]).toNat] := by
  unfold nms
  rw [take_snoc' s j h, List.map_append]; rfl
/-- One letter more. -/
theorem rd_step (a : Int) (k : Nat) (s : List UInt8) (j : Nat) (h : j < s.length) (x : Nat) (hx : (Nm a s[j]).toNat = x) (hxk : x < 2 ^ k) (R M : Nat) (hR : R = rR a k (s.take j) * 2 ^ k + x) (hM : M = k * j % 8 + k) :
    R < 2 ^ M ∧ rE a k (s.take (j + 1)) = rE a k (s.take j) ++ digs 256 (M / 8) (R / 2 ^ (M % 8)) ∧ rR a k (s.take (j + 1)) = R % 2 ^ (M % 8) ∧ k * (j + 1) % 8 = M % 8 := by
  have hl : (s.take j).length = j := by simp; omega
  have hl1 : (s.take (j + 1)).length = j + 1 := by simp; omega
  have hU : rU a k (s.take (j + 1)) = rU a k (s.take j) * 2 ^ k + x := by unfold rU; rw [take_nms a s j h, num_snoc, hx]
  have hf := feed_step k 8 (rU a k (s.take j)) (k * j) x (by omega) hxk R M (by rw [hR]; unfold rR; rw [hl]) hM
  unfold rE rR
  rw [hU, hl, hl1, Nat.mul_succ]
  exact hf

/-- What is behind Read. -/
def ReadPost (a : Int) (k : Nat) (s : List UInt8) (w : World) (e : Ending) (w' : World) : Prop :=
  ∃ v er, e = .returned (.tuple #[v, er]) ∧ Below w.heap.size w w' ∧
    ((rd a k s).2.1 = 0 → er = .nilIface ∧ OwnB w' w.heap.size v (rd a k s).1.length (rd a k s).1) ∧
    ((rd a k s).2.1 ≠ 0 → v = .slice none 0 0 ∧ er = spotE ((rd a k s).2.1 : Nat) ((rd a k s).2.2 : Nat))

theorem rd_bad (a : Int) (k : Nat) (s : List UInt8) (j : Nat) (h : badAt a s = j) (hj : j < s.length) : rd a k s = ([], 60, j) := by
  unfold rd; rw [h, if_pos hj]
theorem bad_here (a : Int) (s : List UInt8) (j : Nat) (hj : j < s.length) (h : badAt a s = j) : Nm a s[j] < 0 := by
  have h1 : s.findIdx (fun c => decide (Nm a c < 0)) < s.length := by unfold badAt at h; omega
  have := List.findIdx_getElem (w := h1)
  simp only [decide_eq_true_eq] at this
  have e : s.findIdx (fun c => decide (Nm a c < 0)) = j := h
  simp only [e] at this
  exact this
theorem bad_not (a : Int) (s : List UInt8) (j : Nat) (hj : j < s.length) (h : j < badAt a s) : 0 ≤ Nm a s[j] := by
  have := List.not_of_lt_findIdx (p := fun c => decide (Nm a c < 0)) (xs := s) h
  simpa using this
theorem digs_one (q V : Nat) : digs q 1 V = [V % q] := by simp [digs]

set_option maxRecDepth 100000 in
set_option maxHeartbeats 4000000 in
theorem read_4 (a : Int) (s : List UInt8) (w : World) (hk : Bt a = (4 : Nat)) (hn : s.length ≤ 1000000000) :
    Calls Try.prog 29 #[.int .u8 a, .string ⟨s.toArray⟩] w (ReadPost a 4 s w) := by
  have K : Hid (Bt a = ((4 : Nat) : Int)) := hk
  have hsz : (⟨s.toArray⟩ : ByteArray).size = s.length := rfl
  have HK := Lib.hid hk
  clear hk
  go_enter Try.func29, Try.ntmps29
  go_wp2_with (first
    | (go_at_call 35; refine (bits_k _ _ _ K).mono ?_; rintro e w' ⟨rfl, rfl⟩))
  go_loopw [7, 8, 9, 10] (fun out rest many i wr => ∃ j : Nat, j ≤ s.length ∧ j ≤ badAt a s ∧ i = .int .i64 j ∧ rest = .int .u32 (rR a 4 (s.take j) : Nat) ∧ many = .int .i64 (4 * j % 8 : Nat) ∧ OwnB wr w.heap.size out (4 * j / 8) ((rE a 4 (s.take j)).map UInt8.ofNat) ∧ Below w.heap.size w wr) (fun _ _ _ i _ => s.length - (intOf i).toNat)
  case atStart => exact ⟨0, by omega, by omega, rfl, by simp [rR, Nat.mod_one], by simp, by simpa [rE, digs] using OwnB.nil w w.heap.size, Below.refl _ _⟩
  case round =>
    obtain ⟨j, hj, hjb, rfl, rfl, rfl, hown, hbel⟩ := hrel
    by_cases hlt : j < s.length
    · by_cases hbad : badAt a s = j
      · have hneg := bad_here a s j hlt hbad
        have hrd := rd_bad a 4 s j hbad hlt
        have HRD := Lib.hid hrd
        have hnm := fun W => number_any a s[j] W
        generalize Nm a s[j] = z at *
        have HNM := Lib.hid hnm
        have HBEL := Lib.hid hbel
        clear hrd hnm hown hbad hjb hbel
        go_wp2_with fail
        refine (HNM.out _).mono ?_
        rintro e w' ⟨rfl, hb⟩
        go_wp2_with fail
        go_ret2
        refine ⟨_, _, rfl, keepb HBEL.out hb, fun h => ?_, fun _ => ?_⟩
        · rw [HRD.out] at h; cases h
        · rw [HRD.out]; exact ⟨rfl, rfl⟩
      · have hnn := bad_not a s j hlt (by omega)
        obtain ⟨x, hx⟩ : ∃ x : Nat, Nm a s[j] = (x : Int) := ⟨(Nm a s[j]).toNat, by omega⟩
        have hxk : x < 16 := by
          have := (nm_back a s[j] hnn).1
          rw [LL_k a 4 HK.out (by omega), hx] at this
          simpa using this
        have hst := rd_step a 4 s j hlt x (by rw [hx]; simp) (by simpa using hxk) _ _ rfl rfl
        have HST := Lib.hid hst
        have hnm := fun W => number_any a s[j] W
        rw [hx] at hnm
        have HNM := Lib.hid hnm
        have hRm : rR a 4 (s.take j) < 2 ^ (4 * j % 8) := by
          unfold rR
          rw [show (s.take j).length = j by simp; omega]
          exact Nat.mod_lt _ (Nat.two_pow_pos _)
        have hdv : 4 * (j + 1) / 8 = 4 * j / 8 + (4 * j % 8 + 4) / 8 := by omega
        have hL0 : 4 * j / 8 ≤ 4 * j := Nat.div_le_self _ _
        have HDV := Lib.hid hdv
        have hm8 : 4 * j % 8 < 8 := Nat.mod_lt _ (by omega)
        have HOWN := Lib.hid hown
        have HBEL := Lib.hid hbel
        clear hown hbel hst hnm hnn hx hdv
        generalize rR a 4 (s.take j) = R0 at *
        generalize rE a 4 (s.take j) = E0 at *
        generalize 4 * j % 8 = m at *
        generalize 4 * j / 8 = L0 at *
        have hR0 : R0 < 256 := Nat.lt_of_lt_of_le hRm (show 2 ^ m ≤ 2 ^ 8 from Nat.pow_le_pow_right (by omega) (by omega))
        have hor : bits .or .u32 ((R0 : Int) * 16) (x : Int) = ((R0 * 16 + x : Nat) : Int) := by
          have := or_shift 4 R0 x (by omega) (by omega) (by simpa using hxk)
          rw [← this]
          congr 1
        have HRM := Lib.hid hRm
        clear hRm
        go_wp2_with fail
        refine (HNM.out _).mono ?_
        rintro e w1 ⟨rfl, hb⟩
        have hown := HOWN.out.below hb
        have hbel := keepb HBEL.out hb
        have HOW1 := Lib.hid hown
        have HBE1 := Lib.hid hbel
        have hs1 := hbel.size
        clear hown hbel hb HOWN HBEL HNM
        obtain ⟨R, hR⟩ : ∃ R : Nat, R = R0 * 16 + x := ⟨_, rfl⟩
        have HST2 := HST.out
        rw [show (2 : Nat) ^ 4 = 16 from rfl, ← hR] at HST2
        obtain ⟨hRM, hE, hR', hM'⟩ := HST2
        rw [← hR] at hor
        have hRb : R < 65536 := by omega
        have HE := Lib.hid hE
        have HR' := Lib.hid hR'
        have HM' := Lib.hid hM'
        have HRM' := Lib.hid hRM
        clear hE hR' hM' HST hR HRM hRM
        by_cases hge : 8 ≤ m + 4
        · obtain ⟨t, ht⟩ : ∃ t, m + 4 = t + 8 := ⟨m + 4 - 8, by omega⟩
          have ht8 : t < 8 := by omega
          have hti : (m : Int) + 4 = (t : Int) + 8 := by omega
          have e1 : (m + 4) % 8 = t := by omega
          have e2 : (m + 4) / 8 = 1 := by omega
          have hRt := HRM'.out
          rw [ht, Nat.pow_add] at hRt
          have hy : R / 2 ^ t < 256 := by rw [Nat.div_lt_iff_lt_mul (Nat.two_pow_pos _), Nat.mul_comm]; exact hRt
          have hE1 : (rE a 4 (s.take (j + 1))).map UInt8.ofNat = E0.map UInt8.ofNat ++ [UInt8.ofNat (R / 2 ^ t)] := by
            rw [HE.out, e1, e2, digs_one, Nat.mod_eq_of_lt hy]; simp
          have hR1 : rR a 4 (s.take (j + 1)) = R % 2 ^ t := by rw [HR'.out, e1]
          have hM1 : 4 * (j + 1) % 8 = t := by rw [HM'.out, e1]
          have hD1 : 4 * (j + 1) / 8 = L0 + 1 := by rw [HDV.out, e2]
          have hyi : (R : Int) / 2 ^ t = ((R / 2 ^ t : Nat) : Int) := by simp
          have hyb : (R : Int) / 2 ^ t < 256 := by rw [hyi]; omega
          have hyb0 : 0 ≤ (R : Int) / 2 ^ t := by rw [hyi]; exact Int.natCast_nonneg _
          have hbv : Value.int .u8 ((R / 2 ^ t : Nat) : Int) = bv (UInt8.ofNat (R / 2 ^ t)) := by
            show _ = Value.int .u8 _
            rw [UInt8.toNat_ofNat_of_lt' (by simpa using hy)]
          have hand : bits .and .u32 (R : Int) ((2 ^ t - 1) % 4294967296) = ((R % 2 ^ t : Nat) : Int) := by
            have hp : 2 ^ t ≤ 2 ^ 8 := Nat.pow_le_pow_right (by omega) (by omega)
            have hp1 := Nat.two_pow_pos t
            have e1 : ((2 : Int) ^ t - 1) % 4294967296 = ((2 ^ t - 1 : Nat) : Int) := by
              have e0 : (2 : Int) ^ t = ((2 ^ t : Nat) : Int) := by simp
              rw [e0]; omega
            rw [e1, and_u32 R t (by omega) (by omega)]
          have G1 := Lib.hid hE1
          have G2 := Lib.hid hR1
          have G3 := Lib.hid hM1
          have G4 := Lib.hid hD1
          have G5 := Lib.hid hbv
          clear e1 e2 hRt hE1 hR1 hM1 hD1 HE HR' HM' HDV HRM' hbv ht hyi
          go_wp2_with (first
            | (at_builtin; refine wpList_pushall rfl (.tmp 46) (.tmp 51) rfl w.heap.size _ L0 (E0.map UInt8.ofNat) rfl (HOW1.out.below ((Below.refl _ _).alloc (Nat.le_refl _) _)) _ _ rfl (UInt8.ofNat (R / 2 ^ t)) (by rw [← G5.out]; simp) (by omega) (by simp; omega) ?_; intro g cap w2 hown2 hg2))
          have hb2 : Below w.heap.size w w2 := (HBE1.out.alloc hs1 _).grown hg2 (by simp; omega) (fun k' hk' => (HOW1.out.lt k' hk').1)
          have hr2 : (R : Int) % 2 ^ t = ((R % 2 ^ t : Nat) : Int) := by simp
          go_roundw
          case rel => exact ⟨j + 1, by omega, by omega, by go_num, by rw [G2.out, hr2], by rw [G3.out], by rw [G4.out, G1.out]; exact hown2, hb2⟩
          case measure => simp [intOf]; omega
        · have hge' : m + 4 < 8 := by omega
          have e1 : (m + 4) % 8 = m + 4 := by omega
          have e2 : (m + 4) / 8 = 0 := by omega
          have hE1 : rE a 4 (s.take (j + 1)) = E0 := by rw [HE.out, e1, e2]; simp [digs]
          have hR1 : rR a 4 (s.take (j + 1)) = R := by rw [HR'.out, e1, Nat.mod_eq_of_lt HRM'.out]
          have hM1 : 4 * (j + 1) % 8 = m + 4 := by rw [HM'.out, e1]
          have hD1 : 4 * (j + 1) / 8 = L0 := by rw [HDV.out, e2]; rfl
          have G1 := Lib.hid hE1
          have G2 := Lib.hid hR1
          have G3 := Lib.hid hM1
          have G4 := Lib.hid hD1
          clear e1 e2 hE1 hR1 hM1 hD1 HE HR' HM' HDV HRM'
          go_wp2_with fail
          go_roundw
          case rel => exact ⟨j + 1, by omega, by omega, by go_num, by rw [G2.out], by rw [G3.out]; go_num, by rw [G4.out, G1.out]; exact HOW1.out, HBE1.out⟩
          case measure => simp [intOf]; omega
    · obtain rfl : j = s.length := by omega
      rw [List.take_length] at hown
      have hbad : ¬ badAt a s < s.length := by omega
      have hrd : rd a 4 s = if 4 ≤ 4 * s.length % 8 then ([], 61, s.length) else if rR a 4 s ≠ 0 then ([], 62, s.length - 1) else ((rE a 4 s).map UInt8.ofNat, 0, 0) := by
        unfold rd; rw [if_neg hbad]
      have hel : ((rE a 4 s).map UInt8.ofNat).length = 4 * s.length / 8 := by simp [rE, digs_length]
      have HEL := Lib.hid hel
      have HRD := Lib.hid hrd
      have HOW := Lib.hid hown
      have HBE := Lib.hid hbel
      have hrr : rR a 4 s < 4294967296 := by
        unfold rR
        have h1 := Nat.mod_lt (rU a 4 s) (Nat.two_pow_pos (4 * s.length % 8))
        have h2 : 2 ^ (4 * s.length % 8) ≤ 2 ^ 8 := Nat.pow_le_pow_right (by omega) (by omega)
        omega
      have hrr0 : (s.length : Nat) = 0 → rR a 4 s = 0 := by intro h; unfold rR; rw [h]; simp [Nat.mod_one]
      rw [List.take_length]
      clear hrd hown hbel hbad hjb hel
      have hm8 : 4 * s.length % 8 < 8 := Nat.mod_lt _ (by omega)
      generalize rE a 4 s = E0 at *
      generalize rR a 4 s = R0 at *
      generalize 4 * s.length % 8 = m at *
      generalize 4 * s.length / 8 = L0 at *
      by_cases hodd : 4 ≤ m
      · have h1 := HRD.out
        rw [if_pos hodd] at h1
        have H1 := Lib.hid h1
        clear h1 HRD
        go_wp2_with fail
        go_ret2
        refine ⟨_, _, rfl, HBE.out, fun h => ?_, fun _ => ?_⟩
        · rw [H1.out] at h; cases h
        · rw [H1.out]; exact ⟨rfl, rfl⟩
      · have h1 := HRD.out
        rw [if_neg hodd] at h1
        by_cases hR : R0 = 0
        · rw [if_neg (by simpa using hR)] at h1
          have H1 := Lib.hid h1
          subst hR
          clear h1 HRD hrr0
          go_wp2_with fail
          go_ret2
          refine ⟨_, _, rfl, HBE.out, fun _ => ?_, fun h => ?_⟩
          · rw [H1.out]; exact ⟨rfl, by rw [HEL.out]; exact HOW.out⟩
          · rw [H1.out] at h; exact absurd rfl h
        · rw [if_pos hR] at h1
          have hl0 : 0 < s.length := by
            rcases Nat.eq_zero_or_pos s.length with h | h
            · exact absurd (hrr0 h) hR
            · exact h
          have H1 := Lib.hid h1
          have hne : ((R0 : Int) != 0) = true := by rw [bne_iff_ne]; omega
          clear h1 HRD hrr0
          go_wp2_with fail
          go_ret2
          refine ⟨_, _, rfl, HBE.out, fun h => ?_, fun _ => ?_⟩
          · rw [H1.out] at h; cases h
          · rw [H1.out]; refine ⟨rfl, ?_⟩
            show Value.iface 79 (.agg #[.int .i64 62, .int .i64 ((s.length : Int) - 1)]) = Value.iface 79 (.agg #[.int .i64 62, .int .i64 ((s.length - 1 : Nat) : Int)])
            rw [show ((s.length - 1 : Nat) : Int) = (s.length : Int) - 1 by omega]
set_option maxRecDepth 100000 in
set_option maxHeartbeats 4000000 in
theorem read_5 (a : Int) (s : List UInt8) (w : World) (hk : Bt a = (5 : Nat)) (hn : s.length ≤ 1000000000) :
    Calls Try.prog 29 #[.int .u8 a, .string ⟨s.toArray⟩] w (ReadPost a 5 s w) := by
  have K : Hid (Bt a = ((5 : Nat) : Int)) := hk
  have hsz : (⟨s.toArray⟩ : ByteArray).size = s.length := rfl
  have HK := Lib.hid hk
  clear hk
  go_enter Try.func29, Try.ntmps29
  go_wp2_with (first
    | (go_at_call 35; refine (bits_k _ _ _ K).mono ?_; rintro e w' ⟨rfl, rfl⟩))
  go_loopw [7, 8, 9, 10] (fun out rest many i wr => ∃ j : Nat, j ≤ s.length ∧ j ≤ badAt a s ∧ i = .int .i64 j ∧ rest = .int .u32 (rR a 5 (s.take j) : Nat) ∧ many = .int .i64 (5 * j % 8 : Nat) ∧ OwnB wr w.heap.size out (5 * j / 8) ((rE a 5 (s.take j)).map UInt8.ofNat) ∧ Below w.heap.size w wr) (fun _ _ _ i _ => s.length - (intOf i).toNat)
  case atStart => exact ⟨0, by omega, by omega, rfl, by simp [rR, Nat.mod_one], by simp, by simpa [rE, digs] using OwnB.nil w w.heap.size, Below.refl _ _⟩
  case round =>
    obtain ⟨j, hj, hjb, rfl, rfl, rfl, hown, hbel⟩ := hrel
    by_cases hlt : j < s.length
    · by_cases hbad : badAt a s = j
      · have hneg := bad_here a s j hlt hbad
        have hrd := rd_bad a 5 s j hbad hlt
        have HRD := Lib.hid hrd
        have hnm := fun W => number_any a s[j] W
        generalize Nm a s[j] = z at *
        have HNM := Lib.hid hnm
        have HBEL := Lib.hid hbel
        clear hrd hnm hown hbad hjb hbel
        go_wp2_with fail
        refine (HNM.out _).mono ?_
        rintro e w' ⟨rfl, hb⟩
        go_wp2_with fail
        go_ret2
        refine ⟨_, _, rfl, keepb HBEL.out hb, fun h => ?_, fun _ => ?_⟩
        · rw [HRD.out] at h; cases h
        · rw [HRD.out]; exact ⟨rfl, rfl⟩
      · have hnn := bad_not a s j hlt (by omega)
        obtain ⟨x, hx⟩ : ∃ x : Nat, Nm a s[j] = (x : Int) := ⟨(Nm a s[j]).toNat, by omega⟩
        have hxk : x < 32 := by
          have := (nm_back a s[j] hnn).1
          rw [LL_k a 5 HK.out (by omega), hx] at this
          simpa using this
        have hst := rd_step a 5 s j hlt x (by rw [hx]; simp) (by simpa using hxk) _ _ rfl rfl
        have HST := Lib.hid hst
        have hnm := fun W => number_any a s[j] W
        rw [hx] at hnm
        have HNM := Lib.hid hnm
        have hRm : rR a 5 (s.take j) < 2 ^ (5 * j % 8) := by
          unfold rR
          rw [show (s.take j).length = j by simp; omega]
          exact Nat.mod_lt _ (Nat.two_pow_pos _)
        have hdv : 5 * (j + 1) / 8 = 5 * j / 8 + (5 * j % 8 + 5) / 8 := by omega
        have hL0 : 5 * j / 8 ≤ 5 * j := Nat.div_le_self _ _
        have HDV := Lib.hid hdv
        have hm8 : 5 * j % 8 < 8 := Nat.mod_lt _ (by omega)
        have HOWN := Lib.hid hown
        have HBEL := Lib.hid hbel
        clear hown hbel hst hnm hnn hx hdv
        generalize rR a 5 (s.take j) = R0 at *
        generalize rE a 5 (s.take j) = E0 at *
        generalize 5 * j % 8 = m at *
        generalize 5 * j / 8 = L0 at *
        have hR0 : R0 < 256 := Nat.lt_of_lt_of_le hRm (show 2 ^ m ≤ 2 ^ 8 from Nat.pow_le_pow_right (by omega) (by omega))
        have hor : bits .or .u32 ((R0 : Int) * 32) (x : Int) = ((R0 * 32 + x : Nat) : Int) := by
          have := or_shift 5 R0 x (by omega) (by omega) (by simpa using hxk)
          rw [← this]
          congr 1
        have HRM := Lib.hid hRm
        clear hRm
        go_wp2_with fail
        refine (HNM.out _).mono ?_
        rintro e w1 ⟨rfl, hb⟩
        have hown := HOWN.out.below hb
        have hbel := keepb HBEL.out hb
        have HOW1 := Lib.hid hown
        have HBE1 := Lib.hid hbel
        have hs1 := hbel.size
        clear hown hbel hb HOWN HBEL HNM
        obtain ⟨R, hR⟩ : ∃ R : Nat, R = R0 * 32 + x := ⟨_, rfl⟩
        have HST2 := HST.out
        rw [show (2 : Nat) ^ 5 = 32 from rfl, ← hR] at HST2
        obtain ⟨hRM, hE, hR', hM'⟩ := HST2
        rw [← hR] at hor
        have hRb : R < 65536 := by omega
        have HE := Lib.hid hE
        have HR' := Lib.hid hR'
        have HM' := Lib.hid hM'
        have HRM' := Lib.hid hRM
        clear hE hR' hM' HST hR HRM hRM
        by_cases hge : 8 ≤ m + 5
        · obtain ⟨t, ht⟩ : ∃ t, m + 5 = t + 8 := ⟨m + 5 - 8, by omega⟩
          have ht8 : t < 8 := by omega
          have hti : (m : Int) + 5 = (t : Int) + 8 := by omega
          have e1 : (m + 5) % 8 = t := by omega
          have e2 : (m + 5) / 8 = 1 := by omega
          have hRt := HRM'.out
          rw [ht, Nat.pow_add] at hRt
          have hy : R / 2 ^ t < 256 := by rw [Nat.div_lt_iff_lt_mul (Nat.two_pow_pos _), Nat.mul_comm]; exact hRt
          have hE1 : (rE a 5 (s.take (j + 1))).map UInt8.ofNat = E0.map UInt8.ofNat ++ [UInt8.ofNat (R / 2 ^ t)] := by
            rw [HE.out, e1, e2, digs_one, Nat.mod_eq_of_lt hy]; simp
          have hR1 : rR a 5 (s.take (j + 1)) = R % 2 ^ t := by rw [HR'.out, e1]
          have hM1 : 5 * (j + 1) % 8 = t := by rw [HM'.out, e1]
          have hD1 : 5 * (j + 1) / 8 = L0 + 1 := by rw [HDV.out, e2]
          have hyi : (R : Int) / 2 ^ t = ((R / 2 ^ t : Nat) : Int) := by simp
          have hyb : (R : Int) / 2 ^ t < 256 := by rw [hyi]; omega
          have hyb0 : 0 ≤ (R : Int) / 2 ^ t := by rw [hyi]; exact Int.natCast_nonneg _
          have hbv : Value.int .u8 ((R / 2 ^ t : Nat) : Int) = bv (UInt8.ofNat (R / 2 ^ t)) := by
            show _ = Value.int .u8 _
            rw [UInt8.toNat_ofNat_of_lt' (by simpa using hy)]
          have hand : bits .and .u32 (R : Int) ((2 ^ t - 1) % 4294967296) = ((R % 2 ^ t : Nat) : Int) := by
            have hp : 2 ^ t ≤ 2 ^ 8 := Nat.pow_le_pow_right (by omega) (by omega)
            have hp1 := Nat.two_pow_pos t
            have e1 : ((2 : Int) ^ t - 1) % 4294967296 = ((2 ^ t - 1 : Nat) : Int) := by
              have e0 : (2 : Int) ^ t = ((2 ^ t : Nat) : Int) := by simp
              rw [e0]; omega
            rw [e1, and_u32 R t (by omega) (by omega)]
          have G1 := Lib.hid hE1
          have G2 := Lib.hid hR1
          have G3 := Lib.hid hM1
          have G4 := Lib.hid hD1
          have G5 := Lib.hid hbv
          clear e1 e2 hRt hE1 hR1 hM1 hD1 HE HR' HM' HDV HRM' hbv ht hyi
          go_wp2_with (first
            | (at_builtin; refine wpList_pushall rfl (.tmp 46) (.tmp 51) rfl w.heap.size _ L0 (E0.map UInt8.ofNat) rfl (HOW1.out.below ((Below.refl _ _).alloc (Nat.le_refl _) _)) _ _ rfl (UInt8.ofNat (R / 2 ^ t)) (by rw [← G5.out]; simp) (by omega) (by simp; omega) ?_; intro g cap w2 hown2 hg2))
          have hb2 : Below w.heap.size w w2 := (HBE1.out.alloc hs1 _).grown hg2 (by simp; omega) (fun k' hk' => (HOW1.out.lt k' hk').1)
          have hr2 : (R : Int) % 2 ^ t = ((R % 2 ^ t : Nat) : Int) := by simp
          go_roundw
          case rel => exact ⟨j + 1, by omega, by omega, by go_num, by rw [G2.out, hr2], by rw [G3.out], by rw [G4.out, G1.out]; exact hown2, hb2⟩
          case measure => simp [intOf]; omega
        · have hge' : m + 5 < 8 := by omega
          have e1 : (m + 5) % 8 = m + 5 := by omega
          have e2 : (m + 5) / 8 = 0 := by omega
          have hE1 : rE a 5 (s.take (j + 1)) = E0 := by rw [HE.out, e1, e2]; simp [digs]
          have hR1 : rR a 5 (s.take (j + 1)) = R := by rw [HR'.out, e1, Nat.mod_eq_of_lt HRM'.out]
          have hM1 : 5 * (j + 1) % 8 = m + 5 := by rw [HM'.out, e1]
          have hD1 : 5 * (j + 1) / 8 = L0 := by rw [HDV.out, e2]; rfl
          have G1 := Lib.hid hE1
          have G2 := Lib.hid hR1
          have G3 := Lib.hid hM1
          have G4 := Lib.hid hD1
          clear e1 e2 hE1 hR1 hM1 hD1 HE HR' HM' HDV HRM'
          go_wp2_with fail
          go_roundw
          case rel => exact ⟨j + 1, by omega, by omega, by go_num, by rw [G2.out], by rw [G3.out]; go_num, by rw [G4.out, G1.out]; exact HOW1.out, HBE1.out⟩
          case measure => simp [intOf]; omega
    · obtain rfl : j = s.length := by omega
      rw [List.take_length] at hown
      have hbad : ¬ badAt a s < s.length := by omega
      have hrd : rd a 5 s = if 5 ≤ 5 * s.length % 8 then ([], 61, s.length) else if rR a 5 s ≠ 0 then ([], 62, s.length - 1) else ((rE a 5 s).map UInt8.ofNat, 0, 0) := by
        unfold rd; rw [if_neg hbad]
      have hel : ((rE a 5 s).map UInt8.ofNat).length = 5 * s.length / 8 := by simp [rE, digs_length]
      have HEL := Lib.hid hel
      have HRD := Lib.hid hrd
      have HOW := Lib.hid hown
      have HBE := Lib.hid hbel
      have hrr : rR a 5 s < 4294967296 := by
        unfold rR
        have h1 := Nat.mod_lt (rU a 5 s) (Nat.two_pow_pos (5 * s.length % 8))
        have h2 : 2 ^ (5 * s.length % 8) ≤ 2 ^ 8 := Nat.pow_le_pow_right (by omega) (by omega)
        omega
      have hrr0 : (s.length : Nat) = 0 → rR a 5 s = 0 := by intro h; unfold rR; rw [h]; simp [Nat.mod_one]
      rw [List.take_length]
      clear hrd hown hbel hbad hjb hel
      have hm8 : 5 * s.length % 8 < 8 := Nat.mod_lt _ (by omega)
      generalize rE a 5 s = E0 at *
      generalize rR a 5 s = R0 at *
      generalize 5 * s.length % 8 = m at *
      generalize 5 * s.length / 8 = L0 at *
      by_cases hodd : 5 ≤ m
      · have h1 := HRD.out
        rw [if_pos hodd] at h1
        have H1 := Lib.hid h1
        clear h1 HRD
        go_wp2_with fail
        go_ret2
        refine ⟨_, _, rfl, HBE.out, fun h => ?_, fun _ => ?_⟩
        · rw [H1.out] at h; cases h
        · rw [H1.out]; exact ⟨rfl, rfl⟩
      · have h1 := HRD.out
        rw [if_neg hodd] at h1
        by_cases hR : R0 = 0
        · rw [if_neg (by simpa using hR)] at h1
          have H1 := Lib.hid h1
          subst hR
          clear h1 HRD hrr0
          go_wp2_with fail
          go_ret2
          refine ⟨_, _, rfl, HBE.out, fun _ => ?_, fun h => ?_⟩
          · rw [H1.out]; exact ⟨rfl, by rw [HEL.out]; exact HOW.out⟩
          · rw [H1.out] at h; exact absurd rfl h
        · rw [if_pos hR] at h1
          have hl0 : 0 < s.length := by
            rcases Nat.eq_zero_or_pos s.length with h | h
            · exact absurd (hrr0 h) hR
            · exact h
          have H1 := Lib.hid h1
          have hne : ((R0 : Int) != 0) = true := by rw [bne_iff_ne]; omega
          clear h1 HRD hrr0
          go_wp2_with fail
          go_ret2
          refine ⟨_, _, rfl, HBE.out, fun h => ?_, fun _ => ?_⟩
          · rw [H1.out] at h; cases h
          · rw [H1.out]; refine ⟨rfl, ?_⟩
            show Value.iface 79 (.agg #[.int .i64 62, .int .i64 ((s.length : Int) - 1)]) = Value.iface 79 (.agg #[.int .i64 62, .int .i64 ((s.length - 1 : Nat) : Int)])
            rw [show ((s.length - 1 : Nat) : Int) = (s.length : Int) - 1 by omega]
set_option maxRecDepth 100000 in
set_option maxHeartbeats 4000000 in
theorem read_6 (a : Int) (s : List UInt8) (w : World) (hk : Bt a = (6 : Nat)) (hn : s.length ≤ 1000000000) :
    Calls Try.prog 29 #[.int .u8 a, .string ⟨s.toArray⟩] w (ReadPost a 6 s w) := by
  have K : Hid (Bt a = ((6 : Nat) : Int)) := hk
  have hsz : (⟨s.toArray⟩ : ByteArray).size = s.length := rfl
  have HK := Lib.hid hk
  clear hk
  go_enter Try.func29, Try.ntmps29
  go_wp2_with (first
    | (go_at_call 35; refine (bits_k _ _ _ K).mono ?_; rintro e w' ⟨rfl, rfl⟩))
  go_loopw [7, 8, 9, 10] (fun out rest many i wr => ∃ j : Nat, j ≤ s.length ∧ j ≤ badAt a s ∧ i = .int .i64 j ∧ rest = .int .u32 (rR a 6 (s.take j) : Nat) ∧ many = .int .i64 (6 * j % 8 : Nat) ∧ OwnB wr w.heap.size out (6 * j / 8) ((rE a 6 (s.take j)).map UInt8.ofNat) ∧ Below w.heap.size w wr) (fun _ _ _ i _ => s.length - (intOf i).toNat)
  case atStart => exact ⟨0, by omega, by omega, rfl, by simp [rR, Nat.mod_one], by simp, by simpa [rE, digs] using OwnB.nil w w.heap.size, Below.refl _ _⟩
  case round =>
    obtain ⟨j, hj, hjb, rfl, rfl, rfl, hown, hbel⟩ := hrel
    by_cases hlt : j < s.length
    · by_cases hbad : badAt a s = j
      · have hneg := bad_here a s j hlt hbad
        have hrd := rd_bad a 6 s j hbad hlt
        have HRD := Lib.hid hrd
        have hnm := fun W => number_any a s[j] W
        generalize Nm a s[j] = z at *
        have HNM := Lib.hid hnm
        have HBEL := Lib.hid hbel
        clear hrd hnm hown hbad hjb hbel
        go_wp2_with fail
        refine (HNM.out _).mono ?_
        rintro e w' ⟨rfl, hb⟩
        go_wp2_with fail
        go_ret2
        refine ⟨_, _, rfl, keepb HBEL.out hb, fun h => ?_, fun _ => ?_⟩
        · rw [HRD.out] at h; cases h
        · rw [HRD.out]; exact ⟨rfl, rfl⟩
      · have hnn := bad_not a s j hlt (by omega)
        obtain ⟨x, hx⟩ : ∃ x : Nat, Nm a s[j] = (x : Int) := ⟨(Nm a s[j]).toNat, by omega⟩
        have hxk : x < 64 := by
          have := (nm_back a s[j] hnn).1
          rw [LL_k a 6 HK.out (by omega), hx] at this
          simpa using this
        have hst := rd_step a 6 s j hlt x (by rw [hx]; simp) (by simpa using hxk) _ _ rfl rfl
        have HST := Lib.hid hst
        have hnm := fun W => number_any a s[j] W
        rw [hx] at hnm
        have HNM := Lib.hid hnm
        have hRm : rR a 6 (s.take j) < 2 ^ (6 * j % 8) := by
          unfold rR
          rw [show (s.take j).length = j by simp; omega]
          exact Nat.mod_lt _ (Nat.two_pow_pos _)
        have hdv : 6 * (j + 1) / 8 = 6 * j / 8 + (6 * j % 8 + 6) / 8 := by omega
        have hL0 : 6 * j / 8 ≤ 6 * j := Nat.div_le_self _ _
        have HDV := Lib.hid hdv
        have hm8 : 6 * j % 8 < 8 := Nat.mod_lt _ (by omega)
        have HOWN := Lib.hid hown
        have HBEL := Lib.hid hbel
        clear hown hbel hst hnm hnn hx hdv
        generalize rR a 6 (s.take j) = R0 at *
        generalize rE a 6 (s.take j) = E0 at *
        generalize 6 * j % 8 = m at *
        generalize 6 * j / 8 = L0 at *
        have hR0 : R0 < 256 := Nat.lt_of_lt_of_le hRm (show 2 ^ m ≤ 2 ^ 8 from Nat.pow_le_pow_right (by omega) (by omega))
        have hor : bits .or .u32 ((R0 : Int) * 64) (x : Int) = ((R0 * 64 + x : Nat) : Int) := by
          have := or_shift 6 R0 x (by omega) (by omega) (by simpa using hxk)
          rw [← this]
          congr 1
        have HRM := Lib.hid hRm
        clear hRm
        go_wp2_with fail
        refine (HNM.out _).mono ?_
        rintro e w1 ⟨rfl, hb⟩
        have hown := HOWN.out.below hb
        have hbel := keepb HBEL.out hb
        have HOW1 := Lib.hid hown
        have HBE1 := Lib.hid hbel
        have hs1 := hbel.size
        clear hown hbel hb HOWN HBEL HNM
        obtain ⟨R, hR⟩ : ∃ R : Nat, R = R0 * 64 + x := ⟨_, rfl⟩
        have HST2 := HST.out
        rw [show (2 : Nat) ^ 6 = 64 from rfl, ← hR] at HST2
        obtain ⟨hRM, hE, hR', hM'⟩ := HST2
        rw [← hR] at hor
        have hRb : R < 65536 := by omega
        have HE := Lib.hid hE
        have HR' := Lib.hid hR'
        have HM' := Lib.hid hM'
        have HRM' := Lib.hid hRM
        clear hE hR' hM' HST hR HRM hRM
        by_cases hge : 8 ≤ m + 6
        · obtain ⟨t, ht⟩ : ∃ t, m + 6 = t + 8 := ⟨m + 6 - 8, by omega⟩
          have ht8 : t < 8 := by omega
          have hti : (m : Int) + 6 = (t : Int) + 8 := by omega
          have e1 : (m + 6) % 8 = t := by omega
          have e2 : (m + 6) / 8 = 1 := by omega
          have hRt := HRM'.out
          rw [ht, Nat.pow_add] at hRt
          have hy : R / 2 ^ t < 256 := by rw [Nat.div_lt_iff_lt_mul (Nat.two_pow_pos _), Nat.mul_comm]; exact hRt
          have hE1 : (rE a 6 (s.take (j + 1))).map UInt8.ofNat = E0.map UInt8.ofNat ++ [UInt8.ofNat (R / 2 ^ t)] := by
            rw [HE.out, e1, e2, digs_one, Nat.mod_eq_of_lt hy]; simp
          have hR1 : rR a 6 (s.take (j + 1)) = R % 2 ^ t := by rw [HR'.out, e1]
          have hM1 : 6 * (j + 1) % 8 = t := by rw [HM'.out, e1]
          have hD1 : 6 * (j + 1) / 8 = L0 + 1 := by rw [HDV.out, e2]
          have hyi : (R : Int) / 2 ^ t = ((R / 2 ^ t : Nat) : Int) := by simp
          have hyb : (R : Int) / 2 ^ t < 256 := by rw [hyi]; omega
          have hyb0 : 0 ≤ (R : Int) / 2 ^ t := by rw [hyi]; exact Int.natCast_nonneg _
          have hbv : Value.int .u8 ((R / 2 ^ t : Nat) : Int) = bv (UInt8.ofNat (R / 2 ^ t)) := by
            show _ = Value.int .u8 _
            rw [UInt8.toNat_ofNat_of_lt' (by simpa using hy)]
          have hand : bits .and .u32 (R : Int) ((2 ^ t - 1) % 4294967296) = ((R % 2 ^ t : Nat) : Int) := by
            have hp : 2 ^ t ≤ 2 ^ 8 := Nat.pow_le_pow_right (by omega) (by omega)
            have hp1 := Nat.two_pow_pos t
            have e1 : ((2 : Int) ^ t - 1) % 4294967296 = ((2 ^ t - 1 : Nat) : Int) := by
              have e0 : (2 : Int) ^ t = ((2 ^ t : Nat) : Int) := by simp
              rw [e0]; omega
            rw [e1, and_u32 R t (by omega) (by omega)]
          have G1 := Lib.hid hE1
          have G2 := Lib.hid hR1
          have G3 := Lib.hid hM1
          have G4 := Lib.hid hD1
          have G5 := Lib.hid hbv
          clear e1 e2 hRt hE1 hR1 hM1 hD1 HE HR' HM' HDV HRM' hbv ht hyi
          go_wp2_with (first
            | (at_builtin; refine wpList_pushall rfl (.tmp 46) (.tmp 51) rfl w.heap.size _ L0 (E0.map UInt8.ofNat) rfl (HOW1.out.below ((Below.refl _ _).alloc (Nat.le_refl _) _)) _ _ rfl (UInt8.ofNat (R / 2 ^ t)) (by rw [← G5.out]; simp) (by omega) (by simp; omega) ?_; intro g cap w2 hown2 hg2))
          have hb2 : Below w.heap.size w w2 := (HBE1.out.alloc hs1 _).grown hg2 (by simp; omega) (fun k' hk' => (HOW1.out.lt k' hk').1)
          have hr2 : (R : Int) % 2 ^ t = ((R % 2 ^ t : Nat) : Int) := by simp
          go_roundw
          case rel => exact ⟨j + 1, by omega, by omega, by go_num, by rw [G2.out, hr2], by rw [G3.out], by rw [G4.out, G1.out]; exact hown2, hb2⟩
          case measure => simp [intOf]; omega
        · have hge' : m + 6 < 8 := by omega
          have e1 : (m + 6) % 8 = m + 6 := by omega
          have e2 : (m + 6) / 8 = 0 := by omega
          have hE1 : rE a 6 (s.take (j + 1)) = E0 := by rw [HE.out, e1, e2]; simp [digs]
          have hR1 : rR a 6 (s.take (j + 1)) = R := by rw [HR'.out, e1, Nat.mod_eq_of_lt HRM'.out]
          have hM1 : 6 * (j + 1) % 8 = m + 6 := by rw [HM'.out, e1]
          have hD1 : 6 * (j + 1) / 8 = L0 := by rw [HDV.out, e2]; rfl
          have G1 := Lib.hid hE1
          have G2 := Lib.hid hR1
          have G3 := Lib.hid hM1
          have G4 := Lib.hid hD1
          clear e1 e2 hE1 hR1 hM1 hD1 HE HR' HM' HDV HRM'
          go_wp2_with fail
          go_roundw
          case rel => exact ⟨j + 1, by omega, by omega, by go_num, by rw [G2.out], by rw [G3.out]; go_num, by rw [G4.out, G1.out]; exact HOW1.out, HBE1.out⟩
          case measure => simp [intOf]; omega
    · obtain rfl : j = s.length := by omega
      rw [List.take_length] at hown
      have hbad : ¬ badAt a s < s.length := by omega
      have hrd : rd a 6 s = if 6 ≤ 6 * s.length % 8 then ([], 61, s.length) else if rR a 6 s ≠ 0 then ([], 62, s.length - 1) else ((rE a 6 s).map UInt8.ofNat, 0, 0) := by
        unfold rd; rw [if_neg hbad]
      have hel : ((rE a 6 s).map UInt8.ofNat).length = 6 * s.length / 8 := by simp [rE, digs_length]
      have HEL := Lib.hid hel
      have HRD := Lib.hid hrd
      have HOW := Lib.hid hown
      have HBE := Lib.hid hbel
      have hrr : rR a 6 s < 4294967296 := by
        unfold rR
        have h1 := Nat.mod_lt (rU a 6 s) (Nat.two_pow_pos (6 * s.length % 8))
        have h2 : 2 ^ (6 * s.length % 8) ≤ 2 ^ 8 := Nat.pow_le_pow_right (by omega) (by omega)
        omega
      have hrr0 : (s.length : Nat) = 0 → rR a 6 s = 0 := by intro h; unfold rR; rw [h]; simp [Nat.mod_one]
      rw [List.take_length]
      clear hrd hown hbel hbad hjb hel
      have hm8 : 6 * s.length % 8 < 8 := Nat.mod_lt _ (by omega)
      generalize rE a 6 s = E0 at *
      generalize rR a 6 s = R0 at *
      generalize 6 * s.length % 8 = m at *
      generalize 6 * s.length / 8 = L0 at *
      by_cases hodd : 6 ≤ m
      · have h1 := HRD.out
        rw [if_pos hodd] at h1
        have H1 := Lib.hid h1
        clear h1 HRD
        go_wp2_with fail
        go_ret2
        refine ⟨_, _, rfl, HBE.out, fun h => ?_, fun _ => ?_⟩
        · rw [H1.out] at h; cases h
        · rw [H1.out]; exact ⟨rfl, rfl⟩
      · have h1 := HRD.out
        rw [if_neg hodd] at h1
        by_cases hR : R0 = 0
        · rw [if_neg (by simpa using hR)] at h1
          have H1 := Lib.hid h1
          subst hR
          clear h1 HRD hrr0
          go_wp2_with fail
          go_ret2
          refine ⟨_, _, rfl, HBE.out, fun _ => ?_, fun h => ?_⟩
          · rw [H1.out]; exact ⟨rfl, by rw [HEL.out]; exact HOW.out⟩
          · rw [H1.out] at h; exact absurd rfl h
        · rw [if_pos hR] at h1
          have hl0 : 0 < s.length := by
            rcases Nat.eq_zero_or_pos s.length with h | h
            · exact absurd (hrr0 h) hR
            · exact h
          have H1 := Lib.hid h1
          have hne : ((R0 : Int) != 0) = true := by rw [bne_iff_ne]; omega
          clear h1 HRD hrr0
          go_wp2_with fail
          go_ret2
          refine ⟨_, _, rfl, HBE.out, fun h => ?_, fun _ => ?_⟩
          · rw [H1.out] at h; cases h
          · rw [H1.out]; refine ⟨rfl, ?_⟩
            show Value.iface 79 (.agg #[.int .i64 62, .int .i64 ((s.length : Int) - 1)]) = Value.iface 79 (.agg #[.int .i64 62, .int .i64 ((s.length - 1 : Nat) : Int)])
            rw [show ((s.length - 1 : Nat) : Int) = (s.length : Int) - 1 by omega]
theorem read_k (a : Int) (k : Nat) (s : List UInt8) (w : World) (hk : Bt a = k) (h0 : k = 4 ∨ k = 5 ∨ k = 6) (hn : s.length ≤ 1000000000) :
    Calls Try.prog 29 #[.int .u8 a, .string ⟨s.toArray⟩] w (ReadPost a k s w) := by
  rcases h0 with rfl | rfl | rfl
  · exact read_4 a s w hk hn
  · exact read_5 a s w hk hn
  · exact read_6 a s w hk hn
theorem read_no (a : Int) (v : Value) (w : World) (hk : Bt a = 0) :
    Calls Try.prog 29 #[.int .u8 a, v] w fun e w' => e = .returned (.tuple #[.slice none 0 0, eno 2]) ∧ w = w' := by
  have K : Hid (Bt a = 0) := hk
  clear hk
  go_enter Try.func29, Try.ntmps29
  go_wp2_with (first
      | (go_at_call 35; refine (bits_k _ _ _ K).mono ?_; rintro e w' ⟨rfl, rfl⟩))
  go_ret2
  exact ⟨rfl, rfl⟩
end Go.Proofs.Ytdlplmflimleaaa
