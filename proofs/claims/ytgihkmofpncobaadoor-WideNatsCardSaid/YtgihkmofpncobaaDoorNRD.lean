/- The document's natural numbers: their figures to the base 65536. -/
import Derived.Test.YtgihkmofpncobaaDoorNRB
namespace Go.Proofs.YtgihkmofpncobaaDoor
open Go.RowKit
set_option linter.unusedSimpArgs false
set_option linter.unusedVariables false

def B16 : Nat := 65536
def okJ : Value → Prop := fun u => ∃ m : Nat, u = fv m ∧ m < B16
theorem okJ0 : okJ (.int .i64 0) := ⟨0, rfl, by decide⟩
/-- A slice holds a number's figures to the base 65536. -/
def WrdL (w : World) (A : Option Addr) (n c x : Nat) : Prop := ∃ l, IsF B16 x l ∧ l.length = n ∧ RT w 3 A (l.map fv) ∧ n ≤ c
def WrdP (x : Nat) (w : World) (e : Ending) (w' : World) : Prop := ∃ A n c, e = .returned (.slice A n c) ∧ WrdL w' A n c x ∧ Below w.heap.size w w'
theorem isF_lows {q k x : Nat} (hq : 1 < q) (h0 : x / q ^ k = 0) (hk : k = 0 ∨ x / q ^ (k - 1) ≠ 0) : IsF q x (lows q k x) := by
  have hp : 0 < q ^ k := Nat.pow_pos (by omega)
  have hlt : x < q ^ k := by
    rcases Nat.div_eq_zero_iff.1 h0 with h | h
    · omega
    · exact h
  refine ⟨lows_figs _ _ _ (by omega), by rw [fval_lows, Nat.mod_eq_of_lt hlt], fun i hi => ?_⟩
  rw [lows_length] at hi
  have hg := lows_get q k x i (by omega)
  rw [List.getD_eq_getElem?_getD, hg]
  rcases hk with h | h
  · omega
  · rw [show k - 1 = i by omega] at h
    have hl : x / q ^ i < q := by
      rw [Nat.div_lt_iff_lt_mul (Nat.pow_pos (by omega)), Nat.mul_comm, ← Nat.pow_succ, show i.succ = k by omega]
      exact hlt
    simp only [Option.getD_some]
    rw [Nat.mod_eq_of_lt hl]
    exact h
theorem RatL.zero {w : World} {A : Option Addr} {n c x : Nat} (h : RatL w A n c x) : n = 0 ↔ x = 0 := by
  constructor
  · rintro rfl
    have := h.lt
    rw [Nat.pow_zero] at this
    omega
  · rintro rfl
    have := h.len (k := 0) (by rw [Nat.pow_zero]; omega)
    omega
set_option maxRecDepth 100000 in
set_option maxHeartbeats 4000000 in
theorem rwords_nat (v : Value) (x N : Nat) (w : World) (hv : RatW w v x) (hx : x < B4 ^ N) (hN : N ≤ 10000) :
    Calls Tryd.prog 63 #[v] w (WrdP x w) := by
  obtain ⟨A, n, c, rfl, hl⟩ := hv
  have HX := Lib.hid hx
  have HK0 := Lib.hid (Blk.new w 31 #[.slice A n c])
  have HB0 := Lib.hid ((Below.refl _ w).alloc (Nat.le_refl _) (.cells #[.slice A n c] 31))
  have HL0 := Lib.hid (hl.below (below_new w (.cells #[.slice A n c] 31)))
  clear hl hx
  go_enter Tryd.func63, Tryd.ntmps63
  go_wp2_with fail
  generalize w.alloc (.cells #[.slice A n c] 31) = W0 at *
  have hsz0 : w.heap.size < W0.heap.size := HK0.out.lt
  have HSZ := Lib.hid hsz0
  clear hsz0
  go_loopg [3] x (fun K s3 wr => ∃ (k : Nat) (A1 : Option Addr) (n1 c1 : Nat), K = x / B16 ^ k ∧ (k = 0 ∨ x / B16 ^ (k - 1) ≠ 0) ∧ k ≤ 20000 ∧ OwnR wr W0.heap.size 3 okJ s3 k ((lows B16 k x).map fv) ∧ Blk wr w.heap.size 31 #[.slice A1 n1 c1] ∧ RatL wr A1 n1 c1 (x / B16 ^ k) ∧ Below w.heap.size w wr ∧ W0.heap.size ≤ wr.heap.size)
  case atStart => exact ⟨0, A, n, c, by rw [Nat.pow_zero, Nat.div_one], .inl rfl, by omega, OwnR.nil _ _ _ _, HK0.out, by rw [Nat.pow_zero, Nat.div_one]; exact HL0.out, HB0.out, Nat.le_refl _⟩
  case round =>
    obtain ⟨k, A1, n1, c1, rfl, hkt, hk2, hu, hk, hrl, hb, hle⟩ := hrel
    have HKT := Lib.hid hkt
    have HU := Lib.hid hu
    have HK := Lib.hid hk
    have HRL := Lib.hid hrl
    have HB := Lib.hid hb
    have HLE := Lib.hid hle
    obtain ⟨A3, c3, hu', hc3⟩ := hu.shape
    subst hu'
    have q0 := hk.cell 0
    have f0 := hk.frozen 0
    simp at q0
    have hz := hrl.zero
    have hn1 : n1 ≤ 10000 := Nat.le_trans (hrl.len (Nat.lt_of_le_of_lt (Nat.div_le_self _ _) HX.out)) hN
    clear hkt hu hk hrl hb
    by_cases h0 : x / B16 ^ k = 0
    · obtain rfl : n1 = 0 := hz.2 h0
      have HF := Lib.hid (isF_lows (q := B16) (by decide) h0 HKT.out)
      clear hz h0
      go_wp2_with fail
      go_ret
      exact ⟨A3, k, c3, rfl, ⟨_, HF.out, lows_length _ _ _, RT.of_own HU.out, hc3⟩, HB.out⟩
    · have hn0 : 0 < n1 := Nat.pos_of_ne_zero (fun h => h0 (hz.1 h))
      have t1 : decide ((0 : Int) < (n1 : Int)) = true := decide_eq_true (by omega)
      have t1' : decide (0 < n1) = true := decide_eq_true hn0
      have hk3 : k + 1 ≤ 20000 := by
        rcases Nat.lt_or_ge k 19999 with h | h
        · omega
        · exfalso
          refine h0 (Nat.div_eq_of_lt (Nat.lt_of_lt_of_le HX.out ?_))
          refine Nat.le_trans (Nat.pow_le_pow_left (show B4 ≤ B16 by decide) N) (Nat.pow_le_pow_right (by decide) (by omega))
      have HH := Lib.hid (rhalved_nat (.agg #[.slice A1 n1 c1]) (x / B16 ^ k) 65536 N wr HRL.out.w (by omega) (by omega) (Nat.lt_of_le_of_lt (Nat.div_le_self _ _) HX.out) hN)
      have hdv : x / B16 ^ k / 65536 = x / B16 ^ (k + 1) := by rw [Nat.pow_succ, ← Nat.div_div_eq_div_mul]; rfl
      have hsn : lows B16 (k + 1) x = lows B16 k x ++ [x / B16 ^ k % 65536] := lows_snoc B16 k x
      unfold HalfP at HH
      rw [hdv] at HH
      have HSN := Lib.hid hsn
      have HDL := Lib.hid (show x / B16 ^ (k + 1) < x / B16 ^ k by rw [← hdv]; exact Nat.div_lt_self (Nat.pos_of_ne_zero h0) (by decide))
      have HNE := Lib.hid (show k + 1 = 0 ∨ x / B16 ^ (k + 1 - 1) ≠ 0 from .inr (by rw [Nat.add_sub_cancel]; exact h0))
      have hr : x / B16 ^ k % 65536 < 65536 := Nat.mod_lt _ (by decide)
      have hrI : ((x / B16 ^ k % 65536 : Nat) : Int) < 65536 := by omega
      rw [show (((65536 : Nat) : Int)) = 65536 from rfl] at HH
      generalize x / B16 ^ k % 65536 = r at *
      clear hz h0 hdv hsn hr
      go_wp2_with fail
      refine HH.out.mono ?_
      rintro e w1 ⟨A5, n5, c5, rfl, hl5, hb5, hf5⟩
      have HL5 := Lib.hid hl5
      have HK5 := Lib.hid (HK.out.below hb5 HK.out.lt)
      have HU5 := Lib.hid (HU.out.below hb5)
      have HB5 := Lib.hid (keepb HB.out hb5)
      have HS5 := Lib.hid (Nat.le_trans HLE.out hb5.size)
      have c0 := HK5.out.cell 0
      have g0 := HK5.out.frozen 0
      simp at c0
      clear hl5 hb5 HH q0 f0
      have HF5 := Lib.hid hf5
      have HK3 := Lib.hid hk3
      have hn1I : (n1 : Int) ≤ 10000 := by omega
      have hkI : (k : Int) ≤ 20000 := by omega
      clear hk2 hk3 hn1 t1' hn0
      have HU6 := Lib.hid (HU5.out.but ((But.refl _ w.heap.size _).setCell (p := ⟨w.heap.size, 0, none⟩) (.inl rfl) (.slice A5 n5 c5)) (HU5.out.apart HK5.out (by decide)))
      have HL6 := Lib.hid (HL5.out.set HK5.out (by decide) (.slice A5 n5 c5) (i := 0))
      have HK6 := Lib.hid (HK5.out.set1 0 (.slice A5 n5 c5))
      have HB6 := Lib.hid (HB5.out.setCell (p := ⟨w.heap.size, 0, none⟩) (Nat.le_refl _) (.slice A5 n5 c5))
      have hs6 : (w1.setCell ⟨w.heap.size, 0, none⟩ (.slice A5 n5 c5)).heap.size = w1.heap.size := by simp [World.setCell]
      have HS6 := Lib.hid hs6
      have hrv := RV.fresh (w1.setCell ⟨w.heap.size, 0, none⟩ (.slice A5 n5 c5)) 3 [fv r]
      rw [hs6] at hrv
      have HRV := Lib.hid hrv
      clear hrv
      clear hf5 hs6
      clear t1 hkI hn1I hrI
      go_wp2_with (at_builtin; refine wpList_app ei_int okJ0 rfl (.tmp 14) (.tmp 16) rfl W0.heap.size _ _ _ rfl (HU6.out.below (below_new _ _)) _ _ _ _ _ rfl HRV.out (fun u hu => by simp at hu; subst hu; rfl) (show k + 1 ≤ _ by have := HK3.out; omega) (show (k + 1) * 8 ≤ _ by have := HK3.out; omega) (Nat.le_trans (by rw [HS6.out]; exact HS5.out) (below_new _ _).size) ?_; intro A7 c7 w7 hu7 hg7 ha7)
      go_roundg (x / B16 ^ (k + 1))
      case measure => exact HDL.out
      case rel =>
        have hne : ∀ g o, A5 = some ⟨g, o, none⟩ → some g ≠ (Value.slice A3 k c3).ownBlock := fun g o hA e => by
          have h1 := HF5.out g o hA
          have h2 := (HU.out.lt g e.symm).2
          omega
        refine ⟨k + 1, A5, n5, c5, rfl, HNE.out, HK3.out, by rw [HSN.out, List.map_append]; exact hu7, ?_, ?_, ?_, ?_⟩
        · exact (HK6.out.alloc _).grown hg7 (fun h => HU.out.apart HK.out (by decide) h.symm)
        · obtain ⟨l, h1, h2, h3, h4⟩ := HL6.out.below (below_new _ (.cells #[fv r] 3))
          exact ⟨l, h1, h2, h3.grown hg7 hne, h4⟩
        · exact (HB6.out.alloc (by rw [HS6.out]; exact HB5.out.size) _).grown hg7 (by simp; have := HB5.out.size; omega) (fun k hk => by have := (HU.out.lt k hk).1; have := HSZ.out; omega)
        · have := hg7.size
          simp at this
          have := HS5.out
          omega
end Go.Proofs.YtgihkmofpncobaaDoor
