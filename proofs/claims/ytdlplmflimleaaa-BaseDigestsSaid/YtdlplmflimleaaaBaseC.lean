/- The contracts of the reference's bit and Write. -/
import Derived.Test.YtdlplmflimleaaaBaseB
import Derived.Test.YtdlplmflimleaaaBaseP
import Derived.Test.YtdlplmflimleaaaBytes
namespace Go.Proofs.Ytdlplmflimleaaa
open Go.RowKit
set_option linter.unusedSimpArgs false
set_option linter.unusedVariables false

theorem and1_i64 (x : Nat) (hx : x < 9223372036854775808) : bits .and .i64 (x : Int) 1 = ((x % 2 : Nat) : Int) := by
  have h1 : (BitVec.ofInt 64 (x : Int)).toNat = x := by
    rw [BitVec.ofInt_natCast, BitVec.toNat_ofNat]; exact Nat.mod_eq_of_lt (by omega)
  have h2 : (BitVec.ofInt 64 (1 : Int)).toNat = 1 := by decide
  show IntKind.i64.wrap ((BitVec.ofInt 64 (x : Int) &&& BitVec.ofInt 64 (1 : Int)).toNat : Int) = _
  rw [BitVec.toNat_and, h1, h2, IntKind.wrap_i64, Nat.and_one_is_mod]
  omega

/-- A bit of bytes, the highest of the first one first; 0 behind them. -/
def bitAt (bs : List UInt8) (i : Nat) : Nat := if h : i / 8 < bs.length then bs[i / 8].toNat / 2 ^ (7 - i % 8) % 2 else 0

theorem rbit_any (A : Option Addr) (n c i : Nat) (bs : List UInt8) (B : Nat) (w : World) (h : RB w B A n bs) (hi : i ≤ 100000000000000000) :
    Calls Try.prog 38 #[.slice A n c, .int .i64 i] w fun e w' => e = .returned (.int .i64 (bitAt bs i : Int)) ∧ w = w' := by
  obtain ⟨hl, hc⟩ := h
  subst hl
  by_cases hlt : i / 8 < bs.length
  · obtain ⟨g, o, rfl, _, hcell⟩ := hc (by omega)
    have hb := hcell (i / 8) hlt
    have hx : bs[i / 8].toNat < 256 := UInt8.toNat_lt _
    have hv : bitAt bs i = bs[i / 8].toNat / 2 ^ (7 - i % 8) % 2 := by unfold bitAt; rw [dif_pos hlt]
    have HV := Lib.hid hv
    clear hcell hv hc
    generalize bs[i / 8] = x at *
    have h8 : i % 8 = 0 ∨ i % 8 = 1 ∨ i % 8 = 2 ∨ i % 8 = 3 ∨ i % 8 = 4 ∨ i % 8 = 5 ∨ i % 8 = 6 ∨ i % 8 = 7 := by omega
    rcases h8 with h8 | h8 | h8 | h8 | h8 | h8 | h8 | h8
    all_goals
      have HV' := HV.out
      rw [h8] at HV'
      have HV2 := Lib.hid HV'
      clear HV'
      have hr : (i : Int) % 8 = ((i % 8 : Nat) : Int) := by omega
      rw [h8] at hr
      clear h8
      go_enter Try.func38, Try.ntmps38
      go_wp2
      go_ret
      refine ⟨ret_int' ?_, rfl⟩
      rw [HV2.out, ← and1_i64 _ (Nat.lt_of_le_of_lt (Nat.div_le_self _ _) (by omega))]
      simp
  · have hv : bitAt bs i = 0 := by unfold bitAt; rw [dif_neg hlt]
    have HV := Lib.hid hv
    clear hv hc
    go_enter Try.func38, Try.ntmps38
    go_wp2
    go_ret
    exact ⟨ret_int' (by rw [HV.out]; rfl), rfl⟩

theorem rsize_nat (a : Int) (k n : Nat) (w : World) (hk : Bt a = k) (h0 : k = 4 ∨ k = 5 ∨ k = 6) (hm : n ≤ 100000000000000000) :
    Calls Try.prog 14 #[.int .i64 a, .int .i64 n] w fun e w' => e = .returned (.int .i64 (lettersOf k n : Nat)) ∧ w = w' := by
  refine (rsize_k a k n w hk (by omega) (by omega) (by omega) (by omega)).mono ?_
  rintro e w' ⟨rfl, rfl⟩
  refine ⟨ret_int' ?_, rfl⟩
  unfold lettersOf
  rcases h0 with rfl | rfl | rfl <;> omega

/-- The letters of bytes. -/
def lets (a : Int) (k : Nat) (bs : List UInt8) : List UInt8 := (lnums k bs).map (Lat a)
theorem lets_length (a : Int) (k : Nat) (bs : List UInt8) : (lets a k bs).length = lettersOf k bs.length := by simp [lets, lnums, digs_length]

/-- The j highest bits of letter m. -/
def lpart (k : Nat) (bs : List UInt8) (m j : Nat) : Nat := padded k bs / 2 ^ (k * lettersOf k bs.length - (m * k + j)) % 2 ^ j
theorem lpart_zero (k : Nat) (bs : List UInt8) (m : Nat) : lpart k bs m 0 = 0 := by simp [lpart, Nat.mod_one]
theorem lpart_lt (k : Nat) (bs : List UInt8) (m j : Nat) (hj : j ≤ 6) : lpart k bs m j < 64 :=
  Nat.lt_of_lt_of_le (Nat.mod_lt _ (Nat.two_pow_pos j)) (Nat.pow_le_pow_right (by omega) hj)
theorem lpart_step (k : Nat) (hk : 0 < k) (bs : List UInt8) (m j : Nat) (h : m * k + j < k * lettersOf k bs.length) :
    lpart k bs m (j + 1) = 2 * lpart k bs m j + bitAt bs (m * k + j) := by
  have hb := padded_bit k hk bs (m * k + j) h
  have hs := letter_step (padded k bs) (k * lettersOf k bs.length - (m * k + j)) j (by omega)
  unfold lpart bitAt
  rw [show k * lettersOf k bs.length - 1 - (m * k + j) = k * lettersOf k bs.length - (m * k + j) - 1 by omega] at hb
  rw [← hb, show k * lettersOf k bs.length - (m * k + (j + 1)) = k * lettersOf k bs.length - (m * k + j) - 1 by omega, hs]
theorem lets_get (a : Int) (k : Nat) (bs : List UInt8) (m : Nat) (h : m < lettersOf k bs.length) (h' : m < (lets a k bs).length) : (lets a k bs)[m] = Lat a (lpart k bs m k) := by
  have h2 := digs_get (2 ^ k) (lettersOf k bs.length) (padded k bs) m h
  have h3 : (lets a k bs)[m]? = some (Lat a (padded k bs / (2 ^ k) ^ (lettersOf k bs.length - 1 - m) % 2 ^ k)) := by
    unfold lets lnums; rw [List.getElem?_map, h2]; rfl
  have h4 : (lets a k bs)[m]? = some (lets a k bs)[m] := List.getElem?_eq_getElem h'
  rw [h4] at h3
  injection h3 with h3
  rw [h3]
  unfold lpart
  rw [← Nat.pow_mul, show k * (lettersOf k bs.length - 1 - m) = k * lettersOf k bs.length - (m * k + k) by
    rw [Nat.sub_sub, Nat.mul_sub]; congr 1; rw [Nat.mul_add, Nat.mul_comm k m, Nat.mul_one]; omega]
theorem take_snoc' (l : List UInt8) (m : Nat) (h : m < l.length) : l.take (m + 1) = l.take m ++ [l[m]] := List.take_succ_eq_append_getElem h

/-- The reference's Write. -/
theorem rwrite_k (a : Int) (k : Nat) (A : Option Addr) (n c B : Nat) (bs : List UInt8) (w : World) (h : RB w B A n bs) (hB : B ≤ w.heap.size) (hk : Bt a = k) (h0 : k = 4 ∨ k = 5 ∨ k = 6) (hn : n ≤ 1000000000) :
    Calls Try.prog 24 #[.int .i64 a, .slice A n c] w fun e w' => e = .returned (.string ⟨(lets a k bs).toArray⟩) ∧ Below w.heap.size w w' := by
  have hl := h.1
  subst hl
  have hsz : lettersOf k bs.length ≤ 8 * bs.length + 6 := by unfold lettersOf; rcases h0 with rfl | rfl | rfl <;> omega
  have HR := Lib.hid h
  have K : Hid (Bt a = (k : Int)) := hk
  have hll := lets_length a k bs
  have HLL := Lib.hid hll
  have HG := Lib.hid (lets_get a k bs)
  have HP := Lib.hid (lpart_step k (by omega) bs)
  have H0 := Lib.hid (lpart_zero k bs)
  have HLT := Lib.hid (lpart_lt k bs)
  have HLG := Lib.hid (lettersOf_ge k bs.length (by omega))
  have HSZ := Lib.hid (fun W => rsize_nat a k bs.length W hk h0 (by omega))
  have HBI := Lib.hid (fun W B' i (hW : RB W B' A bs.length bs) (hi : i ≤ 100000000000000000) => rbit_any A bs.length c i bs B' W hW hi)
  have HLE := Lib.hid (fun W m (hm : m < 2 ^ k) => rletter_k a k m W hk (by omega) (by simpa using hm))
  clear h hk hll
  generalize hL : lettersOf k bs.length = L at *
  have HL := Lib.hid hL
  clear hL
  generalize hll : lets a k bs = ls at *
  clear hll
  rcases h0 with rfl | rfl | rfl
  · go_enter Try.func24, Try.ntmps24
    go_wp2_with (first
      | (go_at_call 12; refine (rbits_k _ _ _ K).mono ?_; rintro e w' ⟨rfl, rfl⟩))
    go_loopw [6, 7] (fun out i wr => ∃ m : Nat, m ≤ L ∧ i = .int .i64 m ∧ wr.ownsRow w.heap.size 5 1 out m ((ls.take m).map bv) ∧ Below w.heap.size w wr) (fun _ i _ => L - (intOf i).toNat)
    case atStart => exact ⟨0, by omega, rfl, by simpa using World.ownsRow_nil w w.heap.size 5 1, Below.refl _ _⟩
    case round =>
      obtain ⟨m, hm, rfl, hown, hbel⟩ := hrel
      by_cases hlt : m < L
      · have hRB : RB wr w.heap.size A bs.length bs := (HR.out.mono hB).below hbel
        have HRB := Lib.hid hRB
        have hlm : m < ls.length := by rw [HLL.out]; exact hlt
        have HLM := Lib.hid hlm
        have hg := HG.out m hlt hlm
        have HGm := Lib.hid hg
        clear hRB hg
        have hz := H0.out m
        have HZ := Lib.hid hz
        clear hz
        have hsize := hbel.size
        go_wp2_with (first
          | (go_at_call 14; refine (HSZ.out _).mono ?_; rintro e w' ⟨rfl, rfl⟩))
        go_loop [8, 9] (fun x j => ∃ q : Nat, q ≤ 4 ∧ j = .int .i64 q ∧ x = .int .i64 (lpart 4 bs m q : Nat)) (fun _ j => 4 - (intOf j).toNat)
        case atStart => exact ⟨0, by omega, rfl, by rw [HZ.out]; rfl⟩
        case round =>
          obtain ⟨q, hq, rfl, rfl⟩ := hrel
          have hxl := HLT.out m q (by omega)
          by_cases hqk : q < 4
          · have hst := HP.out m q (by omega)
            have hidx : m * 4 + q ≤ 100000000000000000 := by omega
            have hbl : bitAt bs (m * 4 + q) ≤ 1 := by unfold bitAt; split <;> omega
            have hst' : ((lpart 4 bs m (q + 1) : Nat) : Int) = 2 * (lpart 4 bs m q : Int) + (bitAt bs (m * 4 + q) : Int) := by rw [hst]; omega
            have HST := Lib.hid hst'
            clear hst hst'
            generalize lpart 4 bs m q = x0 at *
            go_wp2_with (first
              | (go_at_call 38; rw [show ((m : Int) * 4 + (q : Int)) = ((m * 4 + q : Nat) : Int) from by omega]; refine (HBI.out _ _ _ HRB.out hidx).mono ?_; rintro e w' ⟨rfl, rfl⟩))
            go_round
            case rel => exact ⟨q + 1, by omega, by go_num, by rw [HST.out]⟩
            case measure => simp [intOf]; omega
          · obtain rfl : q = 4 := by omega
            clear hq hqk
            have hxk : lpart 4 bs m 4 < 2 ^ 4 := Nat.mod_lt _ (Nat.two_pow_pos _)
            have HXK := Lib.hid hxk
            clear hxk
            generalize lpart 4 bs m 4 = x0 at *
            go_wp2_with (first
              | (go_at_call 39; refine (HLE.out _ x0 HXK.out).mono ?_; rintro e w' ⟨rfl, rfl⟩)
              | (at_builtin; refine wpList_push rfl (.tmp 35) (.tmp 39) rfl w.heap.size _ m (ls.take m) rfl (hown.alloc _) _ _ rfl (Lat a x0) (by simp) (by omega) (by simp; omega) ?_; intro g cap w1 hown1 hg1 hat1 hlt1))
            have htk : ls.take (m + 1) = ls.take m ++ [Lat a x0] := by rw [take_snoc' ls m HLM.out, HGm.out]
            go_roundw
            case rel =>
              refine ⟨m + 1, by omega, by go_num, by rw [htk]; exact hown1, (hbel.alloc hbel.size _).grown hg1 (by simp; omega) ?_⟩
              intro k' hk'
              exact (hown.lt k' hk').1
            case measure => simp [intOf]; omega
      · obtain rfl : m = L := by omega
        clear hm hlt
        obtain ⟨A', c', rfl, hc'⟩ := own_shape hown
        have htk : ls.take m = ls := List.take_of_length_le (by rw [HLL.out]; omega)
        have hrb : RB wr wr.heap.size A' m ls := by
          have := RB.of_own hown
          rwa [htk] at this
        have ks := str_of_RB hrb c'
        clear hrb hown htk
        go_wp2_with (first
          | (go_at_call 14; refine (HSZ.out _).mono ?_; rintro e w' ⟨rfl, rfl⟩))
        go_ret
        exact ⟨rfl, hbel⟩
  · go_enter Try.func24, Try.ntmps24
    go_wp2_with (first
      | (go_at_call 12; refine (rbits_k _ _ _ K).mono ?_; rintro e w' ⟨rfl, rfl⟩))
    go_loopw [6, 7] (fun out i wr => ∃ m : Nat, m ≤ L ∧ i = .int .i64 m ∧ wr.ownsRow w.heap.size 5 1 out m ((ls.take m).map bv) ∧ Below w.heap.size w wr) (fun _ i _ => L - (intOf i).toNat)
    case atStart => exact ⟨0, by omega, rfl, by simpa using World.ownsRow_nil w w.heap.size 5 1, Below.refl _ _⟩
    case round =>
      obtain ⟨m, hm, rfl, hown, hbel⟩ := hrel
      by_cases hlt : m < L
      · have hRB : RB wr w.heap.size A bs.length bs := (HR.out.mono hB).below hbel
        have HRB := Lib.hid hRB
        have hlm : m < ls.length := by rw [HLL.out]; exact hlt
        have HLM := Lib.hid hlm
        have hg := HG.out m hlt hlm
        have HGm := Lib.hid hg
        clear hRB hg
        have hz := H0.out m
        have HZ := Lib.hid hz
        clear hz
        have hsize := hbel.size
        go_wp2_with (first
          | (go_at_call 14; refine (HSZ.out _).mono ?_; rintro e w' ⟨rfl, rfl⟩))
        go_loop [8, 9] (fun x j => ∃ q : Nat, q ≤ 5 ∧ j = .int .i64 q ∧ x = .int .i64 (lpart 5 bs m q : Nat)) (fun _ j => 5 - (intOf j).toNat)
        case atStart => exact ⟨0, by omega, rfl, by rw [HZ.out]; rfl⟩
        case round =>
          obtain ⟨q, hq, rfl, rfl⟩ := hrel
          have hxl := HLT.out m q (by omega)
          by_cases hqk : q < 5
          · have hst := HP.out m q (by omega)
            have hidx : m * 5 + q ≤ 100000000000000000 := by omega
            have hbl : bitAt bs (m * 5 + q) ≤ 1 := by unfold bitAt; split <;> omega
            have hst' : ((lpart 5 bs m (q + 1) : Nat) : Int) = 2 * (lpart 5 bs m q : Int) + (bitAt bs (m * 5 + q) : Int) := by rw [hst]; omega
            have HST := Lib.hid hst'
            clear hst hst'
            generalize lpart 5 bs m q = x0 at *
            go_wp2_with (first
              | (go_at_call 38; rw [show ((m : Int) * 5 + (q : Int)) = ((m * 5 + q : Nat) : Int) from by omega]; refine (HBI.out _ _ _ HRB.out hidx).mono ?_; rintro e w' ⟨rfl, rfl⟩))
            go_round
            case rel => exact ⟨q + 1, by omega, by go_num, by rw [HST.out]⟩
            case measure => simp [intOf]; omega
          · obtain rfl : q = 5 := by omega
            clear hq hqk
            have hxk : lpart 5 bs m 5 < 2 ^ 5 := Nat.mod_lt _ (Nat.two_pow_pos _)
            have HXK := Lib.hid hxk
            clear hxk
            generalize lpart 5 bs m 5 = x0 at *
            go_wp2_with (first
              | (go_at_call 39; refine (HLE.out _ x0 HXK.out).mono ?_; rintro e w' ⟨rfl, rfl⟩)
              | (at_builtin; refine wpList_push rfl (.tmp 35) (.tmp 39) rfl w.heap.size _ m (ls.take m) rfl (hown.alloc _) _ _ rfl (Lat a x0) (by simp) (by omega) (by simp; omega) ?_; intro g cap w1 hown1 hg1 hat1 hlt1))
            have htk : ls.take (m + 1) = ls.take m ++ [Lat a x0] := by rw [take_snoc' ls m HLM.out, HGm.out]
            go_roundw
            case rel =>
              refine ⟨m + 1, by omega, by go_num, by rw [htk]; exact hown1, (hbel.alloc hbel.size _).grown hg1 (by simp; omega) ?_⟩
              intro k' hk'
              exact (hown.lt k' hk').1
            case measure => simp [intOf]; omega
      · obtain rfl : m = L := by omega
        clear hm hlt
        obtain ⟨A', c', rfl, hc'⟩ := own_shape hown
        have htk : ls.take m = ls := List.take_of_length_le (by rw [HLL.out]; omega)
        have hrb : RB wr wr.heap.size A' m ls := by
          have := RB.of_own hown
          rwa [htk] at this
        have ks := str_of_RB hrb c'
        clear hrb hown htk
        go_wp2_with (first
          | (go_at_call 14; refine (HSZ.out _).mono ?_; rintro e w' ⟨rfl, rfl⟩))
        go_ret
        exact ⟨rfl, hbel⟩
  · go_enter Try.func24, Try.ntmps24
    go_wp2_with (first
      | (go_at_call 12; refine (rbits_k _ _ _ K).mono ?_; rintro e w' ⟨rfl, rfl⟩))
    go_loopw [6, 7] (fun out i wr => ∃ m : Nat, m ≤ L ∧ i = .int .i64 m ∧ wr.ownsRow w.heap.size 5 1 out m ((ls.take m).map bv) ∧ Below w.heap.size w wr) (fun _ i _ => L - (intOf i).toNat)
    case atStart => exact ⟨0, by omega, rfl, by simpa using World.ownsRow_nil w w.heap.size 5 1, Below.refl _ _⟩
    case round =>
      obtain ⟨m, hm, rfl, hown, hbel⟩ := hrel
      by_cases hlt : m < L
      · have hRB : RB wr w.heap.size A bs.length bs := (HR.out.mono hB).below hbel
        have HRB := Lib.hid hRB
        have hlm : m < ls.length := by rw [HLL.out]; exact hlt
        have HLM := Lib.hid hlm
        have hg := HG.out m hlt hlm
        have HGm := Lib.hid hg
        clear hRB hg
        have hz := H0.out m
        have HZ := Lib.hid hz
        clear hz
        have hsize := hbel.size
        go_wp2_with (first
          | (go_at_call 14; refine (HSZ.out _).mono ?_; rintro e w' ⟨rfl, rfl⟩))
        go_loop [8, 9] (fun x j => ∃ q : Nat, q ≤ 6 ∧ j = .int .i64 q ∧ x = .int .i64 (lpart 6 bs m q : Nat)) (fun _ j => 6 - (intOf j).toNat)
        case atStart => exact ⟨0, by omega, rfl, by rw [HZ.out]; rfl⟩
        case round =>
          obtain ⟨q, hq, rfl, rfl⟩ := hrel
          have hxl := HLT.out m q (by omega)
          by_cases hqk : q < 6
          · have hst := HP.out m q (by omega)
            have hidx : m * 6 + q ≤ 100000000000000000 := by omega
            have hbl : bitAt bs (m * 6 + q) ≤ 1 := by unfold bitAt; split <;> omega
            have hst' : ((lpart 6 bs m (q + 1) : Nat) : Int) = 2 * (lpart 6 bs m q : Int) + (bitAt bs (m * 6 + q) : Int) := by rw [hst]; omega
            have HST := Lib.hid hst'
            clear hst hst'
            generalize lpart 6 bs m q = x0 at *
            go_wp2_with (first
              | (go_at_call 38; rw [show ((m : Int) * 6 + (q : Int)) = ((m * 6 + q : Nat) : Int) from by omega]; refine (HBI.out _ _ _ HRB.out hidx).mono ?_; rintro e w' ⟨rfl, rfl⟩))
            go_round
            case rel => exact ⟨q + 1, by omega, by go_num, by rw [HST.out]⟩
            case measure => simp [intOf]; omega
          · obtain rfl : q = 6 := by omega
            clear hq hqk
            have hxk : lpart 6 bs m 6 < 2 ^ 6 := Nat.mod_lt _ (Nat.two_pow_pos _)
            have HXK := Lib.hid hxk
            clear hxk
            generalize lpart 6 bs m 6 = x0 at *
            go_wp2_with (first
              | (go_at_call 39; refine (HLE.out _ x0 HXK.out).mono ?_; rintro e w' ⟨rfl, rfl⟩)
              | (at_builtin; refine wpList_push rfl (.tmp 35) (.tmp 39) rfl w.heap.size _ m (ls.take m) rfl (hown.alloc _) _ _ rfl (Lat a x0) (by simp) (by omega) (by simp; omega) ?_; intro g cap w1 hown1 hg1 hat1 hlt1))
            have htk : ls.take (m + 1) = ls.take m ++ [Lat a x0] := by rw [take_snoc' ls m HLM.out, HGm.out]
            go_roundw
            case rel =>
              refine ⟨m + 1, by omega, by go_num, by rw [htk]; exact hown1, (hbel.alloc hbel.size _).grown hg1 (by simp; omega) ?_⟩
              intro k' hk'
              exact (hown.lt k' hk').1
            case measure => simp [intOf]; omega
      · obtain rfl : m = L := by omega
        clear hm hlt
        obtain ⟨A', c', rfl, hc'⟩ := own_shape hown
        have htk : ls.take m = ls := List.take_of_length_le (by rw [HLL.out]; omega)
        have hrb : RB wr wr.heap.size A' m ls := by
          have := RB.of_own hown
          rwa [htk] at this
        have ks := str_of_RB hrb c'
        clear hrb hown htk
        go_wp2_with (first
          | (go_at_call 14; refine (HSZ.out _).mono ?_; rintro e w' ⟨rfl, rfl⟩))
        go_ret
        exact ⟨rfl, hbel⟩
end Go.Proofs.Ytdlplmflimleaaa
