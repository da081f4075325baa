/- The reference's digits: a row of digits, the last first, times a number (times). The reference's digits: a size as a row of letters (Scaled). The reference's digits: a size as a row of letters (Scaled). The reference's digits: its small functions (Finite, Parts, Size, Cmp, noughts, row). The reference's digits: Ends, inside, next, row. The reference's digits: next, row, number. -/
import Derived.Test.YtnajondbdeclmaaGreatDoorText
import Derived.Test.YtnajondbdeclmaaGreatDoorBm
import Derived.Test.YtnajondbdeclmaaGreatDoorDigT
import Derived.Test.YtnajondbdeclmaaGreatDoorDigY
import Derived.Test.YtnajondbdeclmaaGreatDoorRoundP
namespace Go.Proofs.YtnajondbdeclmaaGreatDoor
open Go.RowKit
set_option linter.unusedSimpArgs false
set_option linter.unusedVariables false

/-- A digit as a byte. -/
abbrev du (d : Nat) : Value := .int .u8 (d : Int)
theorem conv_u8w (v : Nat) (hv : v < 256) (w : World) : (convert 22 5 (.int .u64 (v : Int))).run Tryz.prog w = .ok (.int .u8 (v : Int)) w := by
  have h : IntKind.u8.wrap (v : Int) = (v : Int) := by
    show (v : Int) % 256 = v
    omega
  go_simp
theorem conv_wu8 (v : Nat) (hv : v < 256) (w : World) : (convert 5 22 (.int .u8 (v : Int))).run Tryz.prog w = .ok (.int .u64 (v : Int)) w := by
  have h : IntKind.u64.wrap (v : Int) = (v : Int) := wrapN _ (by unfold W64; omega)
  go_simp
/-- What times answers. -/
def TimesP (X : Nat) (n : Nat) (w : World) (e : Ending) (w' : World) : Prop :=
  ∃ v m ds, e = .returned v ∧ OwnR w' w.heap.size 5 okB v m (ds.map du) ∧ ds.length = m ∧ Figs 10 ds ∧ fval 10 ds = X ∧ m ≤ n + 18 ∧ Below w.heap.size w w'
/-- One digit more of a product. -/
theorem ftimes_step {V N : Nat} {ds acc : List Nat} {i over : Nat} (hi : acc.length = i) (h : V = fval 10 acc + 10 ^ i * (over + N * fval 10 (ds.drop i))) {q r s : Nat} (hs : s = over + (if h : i < ds.length then ds[i] * N else 0)) (hq : s / 10 = q) (hr : s % 10 = r) :
    V = fval 10 (acc ++ [r]) + 10 ^ (i + 1) * (q + N * fval 10 (ds.drop (i + 1))) := by
  have hd : over + N * fval 10 (ds.drop i) = s + 10 * (N * fval 10 (ds.drop (i + 1))) := by
    by_cases hlt : i < ds.length
    · rw [dif_pos hlt] at hs
      rw [List.drop_eq_getElem_cons hlt, fval_cons, hs, Nat.mul_add, Nat.mul_comm N, Nat.mul_left_comm N]
      omega
    · rw [dif_neg hlt] at hs
      rw [List.drop_eq_nil_of_le (by omega), List.drop_eq_nil_of_le (by omega), hs]
      simp [fval]
  have e : s = 10 * q + r := by omega
  rw [h, hd, fval_snoc, hi, e, Nat.pow_succ]
  generalize N * fval 10 (ds.drop (i + 1)) = z
  generalize 10 ^ i = p
  rw [Nat.mul_assoc p 10, Nat.mul_add 10 q z, Nat.mul_add p, Nat.mul_add p, Nat.mul_add p]
  omega
set_option maxRecDepth 100000 in
set_option maxHeartbeats 8000000 in
theorem rtimes_any (A : Option Addr) (n c N : Nat) (ds : List Nat) (w : World) (hr : RV w w.heap.size A n (ds.map du)) (hf : Figs 10 ds) (hn : n ≤ 100000) (hN : N ≤ 100000000000000000) :
    Calls Tryz.prog 129 #[.slice A n c, .int .u64 (N : Int)] w (TimesP (fval 10 ds * N) n w) := by
  have HX : Hid (∀ e w', (∃ v m ds', e = .returned v ∧ OwnR w' w.heap.size 5 okB v m (ds'.map du) ∧ ds'.length = m ∧ Figs 10 ds' ∧ fval 10 ds' = fval 10 ds * N ∧ m ≤ n + 18 ∧ Below w.heap.size w w') → TimesP (fval 10 ds * N) n w e w') := Lib.hid (fun e w' h => h)
  refine Calls.mono ?_ (fun e w' h => HX.out e w' h)
  clear HX
  have hdl : ds.length = n := by have := hr.1; simpa using this
  have HR := Lib.hid hr
  have HF := Lib.hid hf
  have HDL := Lib.hid hdl
  have hnI : (n : Int) ≤ 100000 := by omega
  have hNI : (N : Int) ≤ 100000000000000000 := by omega
  obtain ⟨V, hV⟩ : ∃ V, fval 10 ds * N = V := ⟨_, rfl⟩
  have HV := Lib.hid hV
  rw [hV]
  clear hr hf hdl hV
  go_enter Tryz.func129, Tryz.ntmps129
  go_wp2_with fail
  go_loopw [5, 6, 7] (fun s5 s6 s7 wr => ∃ (i over : Nat) (acc : List Nat), s6 = .int .u64 over ∧ s7 = .int .i64 i ∧ OwnR wr w.heap.size 5 okB s5 acc.length (acc.map du) ∧ acc.length = i ∧ Figs 10 acc ∧
      V = fval 10 acc + 10 ^ i * (over + N * fval 10 (ds.drop i)) ∧ over ≤ N ∧ (i ≤ n ∨ over * 10 ^ (i - n) ≤ N) ∧ i ≤ n + 18 ∧ Below w.heap.size w wr)
    (fun _ s6 s7 _ => (n - (intOf s7).toNat) * (N + 2) + (intOf s6).toNat)
  case atStart => exact ⟨0, 0, [], rfl, rfl, OwnR.nil _ _ _ _, rfl, Figs.nil _, by simp [fval, ← HV.out]; rw [Nat.mul_comm], Nat.zero_le _, .inl (Nat.zero_le _), by omega, Below.refl _ _⟩
  case round =>
    obtain ⟨i, over, acc, rfl, rfl, hu, hal, hfa, hval, hov, hsm, hi18, hbel⟩ := hrel
    obtain ⟨wi, rfl⟩ : ∃ wi : World, wi = wr := ⟨_, rfl⟩
    obtain ⟨Au, cu, hub, _⟩ := hu.shape
    subst hub
    have HU := Lib.hid hu
    have HAL := Lib.hid hal
    have HFA := Lib.hid hfa
    have HVAL := Lib.hid hval
    have HOV := Lib.hid hov
    have HSM := Lib.hid hsm
    have HE := Lib.hid hbel
    have hsz := hbel.size
    clear hu hal hfa hval hsm hbel
    by_cases hgo : i < n ∨ 0 < over
    · have hs : ∃ s, s = over + (if h : i < ds.length then ds[i] * N else 0) := ⟨_, rfl⟩
      obtain ⟨s, hs⟩ := hs
      have hs10 : s ≤ 10 * N := by
        rw [hs]
        split
        · rename_i h
          have := HF.out ds[i] (List.getElem_mem h)
          have := Nat.mul_le_mul_right N (show ds[i] ≤ 9 by omega)
          omega
        · omega
      have hacl : acc.length ≤ 100018 := by rw [HAL.out]; omega
      obtain ⟨q, hq⟩ : ∃ q, s / 10 = q := ⟨_, rfl⟩
      obtain ⟨r, hr⟩ : ∃ r, s % 10 = r := ⟨_, rfl⟩
      have HSTEP := Lib.hid (ftimes_step HAL.out HVAL.out hs hq hr)
      have hr10 : r < 10 := by omega
      have hqN : q ≤ N := by omega
      have hkeep : Hid ((i + 1 ≤ n ∨ q * 10 ^ (i + 1 - n) ≤ N) ∧ i + 1 ≤ n + 18) := Lib.hid (by
        rcases Nat.lt_or_ge i n with h | h
        · exact ⟨.inl h, by omega⟩
        · have h0 : 0 < over := by rcases hgo with h1 | h1 <;> omega
          have hso : s = over := by rw [hs, dif_neg (by rw [HDL.out]; omega)]; rfl
          have hle : over * 10 ^ (i - n) ≤ N := by
            rcases HSM.out with h1 | h1
            · have : i - n = 0 := by omega
              rw [this]; omega
            · exact h1
          refine ⟨.inr ?_, ?_⟩
          · rw [show i + 1 - n = (i - n) + 1 by omega, Nat.pow_succ, Nat.mul_comm _ 10, ← Nat.mul_assoc]
            exact Nat.le_trans (Nat.mul_le_mul_right _ (by omega)) hle
          · have h1 : 10 ^ (i - n) ≤ N := Nat.le_trans (Nat.le_mul_of_pos_left _ h0) hle
            have h2 : i - n < 18 := by
              rcases Nat.lt_or_ge (i - n) 18 with h3 | h3
              · exact h3
              · have := Nat.pow_le_pow_right (show 0 < 10 by decide) h3
                omega
            omega)
      have hmeas : Hid ((n - (i + 1)) * (N + 2) + q < (n - i) * (N + 2) + over) := Lib.hid (by
        rcases Nat.lt_or_ge i n with h | h
        · rw [show n - i = (n - (i + 1)) + 1 by omega, Nat.add_mul]
          omega
        · have h0 : 0 < over := by rcases hgo with h1 | h1 <;> omega
          have hso : s = over := by rw [hs, dif_neg (by rw [HDL.out]; omega)]; rfl
          rw [show n - i = 0 by omega, show n - (i + 1) = 0 by omega, Nat.zero_mul]
          omega)
      have hsI : (s : Int) ≤ 1000000000000000000 := by omega
      have e1 : (s : Int) % 10 = (r : Int) := by omega
      have e2 : (s : Int).tmod 10 = (r : Int) := by rw [Int.tmod_eq_emod_of_nonneg (by omega)]; omega
      have e3 : (s : Int) / 10 = (q : Int) := by omega
      have cr := conv_u8w r (by omega)
      have HQ := Lib.hid hqN
      have HRR := Lib.hid hr10
      have hrI : (r : Int) < 10 := by omega
      have hiI : (i : Int) ≤ 100018 := by omega
      clear hq hr hs10 hov hqN
      by_cases hlt : i < n
      · have t1 : decide ((i : Int) < (n : Int)) = true := decide_eq_true (by omega)
        have t1' : decide (i < n) = true := decide_eq_true hlt
        obtain ⟨d, hd⟩ : ∃ d, ds[i]'(by rw [HDL.out]; exact hlt) = d := ⟨_, rfl⟩
        rw [dif_pos (by rw [HDL.out]; exact hlt), hd] at hs
        have hd9 : d < 10 := by rw [← hd]; exact HF.out _ (List.getElem_mem _)
        obtain ⟨g, o, rfl, hg, hc⟩ := HR.out.2 (by omega)
        have cK : wi.cell? ⟨g, o + i, none⟩ = some (du d) := by
          rw [HE.out.cell (p := ⟨g, o + i, none⟩) hg, hc i (by simp [HDL.out]; omega)]
          simp [hd]
        have cd := conv_wu8 d (by omega)
        have hprod : d * N ≤ 9 * N := Nat.mul_le_mul_right N (by omega)
        obtain ⟨dn, hdn⟩ : ∃ dn, d * N = dn := ⟨_, rfl⟩
        have k1 : (d : Int) * (N : Int) = (dn : Int) := by rw [← hdn, Int.natCast_mul]
        have k2 : IntKind.u64.wrap ((d : Int) * (N : Int)) = (dn : Int) := by rw [k1]; exact wrapN _ (by unfold W64; omega)
        have k3 : IntKind.u64.wrap ((over : Int) + (dn : Int)) = (s : Int) := by rw [show (over : Int) + (dn : Int) = (s : Int) by omega]; exact wrapN _ (by unfold W64; omega)
        have k4 : (over : Int) + (dn : Int) = (s : Int) := by omega
        clear hd hs hgo hprod hdn hc hg k1
        go_wp2_with (at_builtin; refine wpList_app ei_u8 ⟨0, rfl⟩ rfl (.tmp 31) (.tmp 35) rfl w.heap.size _ _ _ rfl (HU.out.below (below_new _ _)) _ _ _ _ _ rfl (RV.fresh wi 5 [.int .u8 (r : Int)]) (fun u hu => by simp at hu; subst hu; rfl) (show acc.length + 1 ≤ _ by omega) (show (acc.length + 1) * 1 ≤ _ by omega) (by simp; omega) ?_; intro A5 c5 w5 hu5 hg5 ha5)
        have hnew : acc.map du ++ [Value.int .u8 (r : Int)] = (acc ++ [r]).map du := by simp
        rw [hnew] at hu5
        have HU5 := Lib.hid hu5
        have HE5 := Lib.hid ((HE.out.alloc hsz (.cells #[.int .u8 (r : Int)] 5)).grown hg5 (by simp; omega) (fun k hk => (HU.out.lt k hk).1))
        clear hnew hu5 hg5
        go_wp2_with fail
        go_roundw
        case rel => exact ⟨i + 1, q, acc ++ [r], rfl, by go_num, by rw [List.length_append]; exact HU5.out, by rw [List.length_append, List.length_singleton, HAL.out], HFA.out.snoc HRR.out, HSTEP.out, HQ.out, hkeep.out.1, hkeep.out.2, HE5.out⟩
        case measure => simp [intOf]; exact hmeas.out
      · have h0 : 0 < over := by rcases hgo with h1 | h1 <;> omega
        have hso : over = s := by rw [hs, dif_neg (by rw [HDL.out]; omega)]; rfl
        subst hso
        have t1 : decide ((i : Int) < (n : Int)) = false := decide_eq_false (by omega)
        have t1' : decide (i < n) = false := decide_eq_false hlt
        have t2 : decide ((0 : Int) < (over : Int)) = true := decide_eq_true (by omega)
        have t2' : decide (0 < over) = true := decide_eq_true h0
        clear hs hgo hlt
        go_wp2_with (at_builtin; refine wpList_app ei_u8 ⟨0, rfl⟩ rfl (.tmp 31) (.tmp 35) rfl w.heap.size _ _ _ rfl (HU.out.below (below_new _ _)) _ _ _ _ _ rfl (RV.fresh wi 5 [.int .u8 (r : Int)]) (fun u hu => by simp at hu; subst hu; rfl) (show acc.length + 1 ≤ _ by omega) (show (acc.length + 1) * 1 ≤ _ by omega) (by simp; omega) ?_; intro A5 c5 w5 hu5 hg5 ha5)
        have hnew : acc.map du ++ [Value.int .u8 (r : Int)] = (acc ++ [r]).map du := by simp
        rw [hnew] at hu5
        have HU5 := Lib.hid hu5
        have HE5 := Lib.hid ((HE.out.alloc hsz (.cells #[.int .u8 (r : Int)] 5)).grown hg5 (by simp; omega) (fun k hk => (HU.out.lt k hk).1))
        clear hnew hu5 hg5
        go_wp2_with fail
        go_roundw
        case rel => exact ⟨i + 1, q, acc ++ [r], rfl, by go_num, by rw [List.length_append]; exact HU5.out, by rw [List.length_append, List.length_singleton, HAL.out], HFA.out.snoc HRR.out, HSTEP.out, HQ.out, hkeep.out.1, hkeep.out.2, HE5.out⟩
        case measure => simp [intOf]; exact hmeas.out
    · have t1 : decide ((i : Int) < (n : Int)) = false := decide_eq_false (by omega)
      have t1' : decide (i < n) = false := decide_eq_false (by omega)
      have t2 : decide ((0 : Int) < (over : Int)) = false := decide_eq_false (by omega)
      have t2' : decide (0 < over) = false := decide_eq_false (by omega)
      have h0 : over = 0 := by omega
      have hd0 : ds.drop i = [] := List.drop_eq_nil_of_le (by rw [HDL.out]; omega)
      have HVV := Lib.hid (show fval 10 acc = V by have := HVAL.out; rw [h0, hd0] at this; simp [fval] at this; exact this.symm)
      have hi18' : acc.length ≤ n + 18 := by rw [HAL.out]; exact hi18
      clear hgo hd0 h0 hov
      go_wp2_with fail
      go_ret
      exact ⟨_, acc.length, acc, rfl, HU.out, rfl, HFA.out, HVV.out, hi18', HE.out⟩
end Go.Proofs.YtnajondbdeclmaaGreatDoor

namespace Go.Proofs.YtnajondbdeclmaaGreatDoor
open Go.RowKit
set_option linter.unusedSimpArgs false
set_option linter.unusedVariables false

/-- A number's digits; none of nought. -/
def tx (x : Nat) : List UInt8 := if x = 0 then [] else dtext x
theorem tx_zero : tx 0 = [] := rfl
theorem tx_pos {x : Nat} (h : 0 < x) : tx x = dtext x := by unfold tx; rw [if_neg (by omega)]
theorem tx_snoc {y d : Nat} (hd : d < 10) : tx (d + 10 * y) = if y = 0 ∧ d = 0 then [] else tx y ++ [dch d] := by
  by_cases h : y = 0 ∧ d = 0
  · rw [if_pos h, h.1, h.2]; rfl
  · rw [if_neg h, tx_pos (by omega)]
    have hdc : isD (dch d) = true := by unfold isD; rw [dch_toNat hd]; exact decide_eq_true (by omega)
    have hv : dval (tx y ++ [dch d]) = d + 10 * y := by
      rw [dval_snoc, dch_toNat hd]
      have : dval (tx y) = y := by
        unfold tx
        split
        · rename_i h0; rw [h0]; rfl
        · exact dtext_val y
      rw [this]
      omega
    rw [← hv]
    refine dtext_canon (fun c hc => ?_) (by simp) ?_
    · rcases List.mem_append.1 hc with h1 | h1
      · unfold tx at h1
        split at h1
        · simp at h1
        · exact dtext_digits y c h1
      · rw [List.mem_singleton.1 h1]; exact hdc
    · by_cases hy : y = 0
      · right; rw [hy, tx_zero]; rfl
      · left
        rw [tx_pos (by omega)]
        have hh := dtext_head (show 0 < y by omega)
        cases hdy : dtext y with
        | nil => exact absurd hdy (dtext_ne y)
        | cons c l =>
          rw [hdy] at hh
          intro e
          apply hh
          have e2 : c = 48 := e
          rw [e2]; rfl
end Go.Proofs.YtnajondbdeclmaaGreatDoor

namespace Go.Proofs.YtnajondbdeclmaaGreatDoor
open Go.RowKit
set_option linter.unusedSimpArgs false
set_option linter.unusedVariables false

theorem u5_pow (c : Nat) (hc : c = 215) : 3125 ^ c = U5 := by
  unfold U5
  rw [show (3125 : Nat) = 5 ^ 5 from rfl, ← Nat.pow_mul]
  congr 1
  subst hc
  rfl
/-- A row of digits somewhere in memory. -/
def DR (w : World) (v : Value) (n X : Nat) : Prop := ∃ A c ds, v = .slice A n c ∧ RV w w.heap.size A n (ds.map du) ∧ ds.length = n ∧ Figs 10 ds ∧ fval 10 ds = X
theorem DR.of_times {X n0 : Nat} {w w' : World} {e : Ending} (h : TimesP X n0 w e w') : ∃ v n, e = .returned v ∧ DR w' v n X ∧ n ≤ n0 + 18 ∧ Below w.heap.size w w' := by
  obtain ⟨v, m, ds, rfl, hu, hl, hf, hx, hm, hb⟩ := h
  obtain ⟨A, c, rfl, _⟩ := hu.shape
  exact ⟨_, m, rfl, ⟨A, c, ds, rfl, hu.rv, hl, hf, hx⟩, hm, hb⟩
theorem DR.below {w w' : World} {v : Value} {n X : Nat} (h : DR w v n X) (hb : Below w.heap.size w w') : DR w' v n X := by
  obtain ⟨A, c, ds, rfl, hr, hl, hf, hx⟩ := h
  exact ⟨A, c, ds, rfl, (hr.below hb).mono hb.size, hl, hf, hx⟩
theorem DR.times {w : World} {A : Option Addr} {c n X N : Nat} (h : DR w (.slice A n c) n X) (hn : n ≤ 100000) (hN : N ≤ 100000000000000000) :
    Calls Tryz.prog 129 #[.slice A n c, .int .u64 (N : Int)] w (TimesP (X * N) n w) := by
  obtain ⟨A', c', ds, hv, hr, hl, hf, hx⟩ := h
  injection hv with h1 h2 h3
  subst h1 h3
  have := rtimes_any A n c N ds w hr hf hn hN
  rwa [hx] at this
set_option maxRecDepth 100000 in
set_option maxHeartbeats 8000000 in
theorem rscaled_any (m : Nat) (q : Int) (w : World) (hm : m < 2 ^ 56) (hq1 : -1075 ≤ q) (hq2 : q ≤ 971) :
    Calls Tryz.prog 103 #[.int .u64 (m : Int), .int .i64 q] w fun e w' => e = .returned (.string ⟨(tx (sv5 m q)).toArray⟩) ∧ Below w.heap.size w w' := by
  obtain ⟨cc, hcc⟩ : ∃ c, c = 215 := ⟨_, rfl⟩
  have HU5 := Lib.hid (u5_pow cc hcc)
  have HSV := Lib.hid (show sv5 m q = U5 * m * 2 ^ (q + (unitE : Int)).toNat from rfl)
  have HUE := Lib.hid unitE_eq
  generalize sv5 m q = X at *
  generalize U5 = U at *
  generalize unitE = E at *
  have two : (2 : Nat) ^ 56 = 72057594037927936 := rfl
  rw [two] at hm
  have HC := Lib.hid hcc
  clear two hcc
  have hfr : DR (w.alloc (.cells #[.int .u8 1] 5)) (.slice (some ⟨w.heap.size, 0, none⟩) 1 1) 1 1 :=
    ⟨_, 1, [1], rfl, by
      have h := RV.fresh w 5 [du 1]
      have e : (w.alloc (.cells #[Value.int .u8 1] 5)).heap.size = w.heap.size + 1 := World.size_alloc _ _
      rw [e]
      exact h, rfl, fun d hd => by rw [List.mem_singleton.1 hd]; decide, by simp [fval]⟩
  have HT0 := Lib.hid (hfr.times (N := m) (by decide) (by omega))
  have BB := Lib.hid (below_new w (.cells #[.int .u8 1] 5))
  clear hfr
  go_enter Tryz.func103, Tryz.ntmps103
  go_wp2_with fail
  refine HT0.out.mono ?_
  intro e w1 hE
  obtain ⟨v1, n1, rfl, hdr1, hn1, hb1⟩ := DR.of_times hE
  clear hE
  rw [Nat.one_mul] at hdr1
  have HD1 := Lib.hid hdr1
  have HB1 := Lib.hid (keepb BB.out hb1)
  clear hdr1 hb1
  go_wp2_with fail
  go_loopw [5, 6] (fun s5 s6 wr => ∃ (i n : Nat) (A : Option Addr) (c : Nat), s5 = .slice A n c ∧ s6 = .int .i64 i ∧ i ≤ 1075 ∧ DR wr (.slice A n c) n (m * 3125 ^ ((i + 4) / 5)) ∧ n ≤ 19 + 18 * ((i + 4) / 5) ∧ Below w.heap.size w wr) (fun _ s6 _ => 1075 - (intOf s6).toNat)
  case atStart =>
    obtain ⟨A, c, ds, rfl, h2⟩ := HD1.out
    exact ⟨0, n1, A, c, rfl, rfl, by omega, by have := HD1.out; simpa using this, by omega, HB1.out⟩
  case round =>
    obtain ⟨i, n, A, c, rfl, rfl, hi, hdr, hn, hbel⟩ := hrel
    obtain ⟨wi, rfl⟩ : ∃ wi : World, wi = wr := ⟨_, rfl⟩
    have HD := Lib.hid hdr
    have HE := Lib.hid hbel
    have HN := Lib.hid hn
    have hn' : n ≤ 100000 := by omega
    clear hdr hbel hn
    by_cases hlt : i < 1075
    · have t1 : decide ((i : Int) < 1075) = true := decide_eq_true (by omega)
      have t1' : decide (i < 1075) = true := decide_eq_true hlt
      by_cases h5 : i % 5 = 0
      · have t2 : ((i : Int) % 5 == 0) = true := by rw [beq_iff_eq]; omega
        have t2' : (i % 5 == 0) = true := by rw [beq_iff_eq]; exact h5
        have ht3 : Int.tmod (i : Int) 5 = (i : Int) % 5 := Int.tmod_eq_emod_of_nonneg (by omega)
        have hdiv : (i + 1 + 4) / 5 = (i + 4) / 5 + 1 := by omega
        have HTT := Lib.hid (HD.out.times (N := 3125) hn' (by decide))
        have HDV := Lib.hid hdiv
        clear h5 hdiv
        go_wp2_with fail
        refine HTT.out.mono ?_
        intro e w2 hE
        obtain ⟨v2, n2, rfl, hdr2, hn2, hb2⟩ := DR.of_times hE
        clear hE
        obtain ⟨A2, c2, ds2, rfl, hrest⟩ := hdr2
        have HD2 : Hid (DR w2 (.slice A2 n2 c2) n2 (m * 3125 ^ ((i + 4) / 5) * 3125)) := Lib.hid ⟨A2, c2, ds2, rfl, hrest⟩
        have HB2 := Lib.hid (keepb HE.out hb2)
        have HN2 := Lib.hid hn2
        clear hrest hb2 hn2
        go_wp2_with fail
        go_roundw
        case rel => exact ⟨i + 1, n2, A2, c2, rfl, by go_num, by omega, by rw [HDV.out, Nat.pow_succ, ← Nat.mul_assoc]; exact HD2.out, by have := HN2.out; have := HN.out; have := HDV.out; omega, HB2.out⟩
        case measure => simp [intOf]; omega
      · have t2 : ((i : Int) % 5 == 0) = false := by rw [beq_eq_false_iff_ne]; omega
        have t2' : (i % 5 == 0) = false := by rw [beq_eq_false_iff_ne]; exact h5
        have ht3 : Int.tmod (i : Int) 5 = (i : Int) % 5 := Int.tmod_eq_emod_of_nonneg (by omega)
        have hdiv : (i + 1 + 4) / 5 = (i + 4) / 5 := by omega
        have HDV := Lib.hid hdiv
        clear h5 hdiv
        go_wp2_with fail
        go_roundw
        case rel => exact ⟨i + 1, n, A, c, rfl, by go_num, by omega, by rw [HDV.out]; exact HD.out, by rw [HDV.out]; exact HN.out, HE.out⟩
        case measure => simp [intOf]; omega
    · have hi75 : i = 1075 := by omega
      have e0 : (i + 4) / 5 = cc := by rw [HC.out, hi75]
      rw [e0] at HD
      have HDU := Lib.hid (show DR wi (.slice A n c) n (m * U) by have := HD.out; rwa [HU5.out] at this)
      have HNN := Lib.hid (show n ≤ 3889 by have := HN.out; rw [hi75] at this; omega)
      have t1 : decide ((i : Int) < 1075) = false := decide_eq_false (by omega)
      have t1' : decide (i < 1075) = false := decide_eq_false (by omega)
      have kq : IntKind.i64.wrap (q + 1075) = q + 1075 := IntWalk.i64_in _ (by omega)
      clear e0 HD HN hn' hlt hi hi75
      have hK0 : ∃ K : Nat, q + 1075 = (K : Int) := ⟨(q + 1075).toNat, by omega⟩
      obtain ⟨K, hK⟩ := hK0
      have hKl : K ≤ 2046 := by omega
      have HXX := Lib.hid (show X = m * U * 2 ^ K by rw [HSV.out, HUE.out, show (q + ((1075 : Nat) : Int)).toNat = K by omega, Nat.mul_comm m])
      rw [hK] at kq
      go_wp2_with fail
      go_loopw [5, 7] (fun s5 s7 wr => ∃ (k : Int) (n : Nat) (A : Option Addr) (c Y : Nat), s5 = .slice A n c ∧ s7 = .int .i64 k ∧ -16 ≤ k ∧ k ≤ 2046 ∧ DR wr (.slice A n c) n Y ∧ Y * 2 ^ k.toNat = X ∧ (n : Int) + 18 * k ≤ 3889 + 18 * 2046 ∧ Below w.heap.size w wr) (fun _ s7 _ => (intOf s7).toNat)
      case atStart => exact ⟨(K : Int), n, A, c, m * U, rfl, rfl, by omega, by omega, HDU.out, by rw [HXX.out]; rfl, by have := HNN.out; omega, HE.out⟩
      case round =>
        obtain ⟨k, n2, A2, c2, Y, rfl, rfl, hk1, hk2, hdr, hY, hn2, hbel⟩ := hrel
        obtain ⟨wj, rfl⟩ : ∃ wj : World, wj = wr := ⟨_, rfl⟩
        have HDJ := Lib.hid hdr
        have HEJ := Lib.hid hbel
        have HY := Lib.hid hY
        have HN2 := Lib.hid hn2
        have hn100 : n2 ≤ 100000 := by omega
        clear hdr hbel hY hn2
        by_cases hpos : 0 < k
        · have t2 : decide (0 < k) = true := decide_eq_true hpos
          obtain ⟨j, hj⟩ : ∃ j : Nat, min k 16 = (j : Int) := ⟨(min k 16).toNat, by omega⟩
          have hj16 : j ≤ 16 := by omega
          have hj0 : 0 < j := by omega
          have HJ := Lib.hid hj
          have hkj : (k - 16).toNat = k.toNat - j := by omega
          have hjk : j ≤ k.toNat := by omega
          have hpw : 2 ^ j ≤ 65536 := by
            have := Nat.pow_le_pow_right (show 0 < 2 by decide) hj16
            exact this
          have hsh : IntKind.u64.wrap ((1 : Int) * 2 ^ j) = ((2 ^ j : Nat) : Int) := by
            have := shl_w 1 j
            rw [Nat.one_mul, Nat.mod_eq_of_lt (by unfold W64; omega)] at this
            exact this
          have HTT := Lib.hid (HDJ.out.times (N := 2 ^ j) hn100 (by omega))
          have kk : IntKind.i64.wrap (k - 16) = k - 16 := IntWalk.i64_in _ (by omega)
          have HKJ := Lib.hid hkj
          have HJK := Lib.hid hjk
          have hsh2 : IntKind.u64.wrap ((2 : Int) ^ j) = ((2 ^ j : Nat) : Int) := by rw [← hsh, Int.one_mul]
          have HPP : Hid (Y * 2 ^ j * 2 ^ (k - 16).toNat = X) := Lib.hid (by
            rw [Nat.mul_assoc, ← Nat.pow_add, hkj, show j + (k.toNat - j) = k.toNat by omega]
            exact HY.out)
          have HNK := Lib.hid (show ((n2 : Int) + 18) + 18 * (k - 16) ≤ 3889 + 18 * 2046 by have := HN2.out; omega)
          have HPOS := Lib.hid hpos
          clear hpw hkj hjk hj16 hj0 hpos hsh hj
          generalize 2 ^ j = p2 at *
          have hj := HJ.out
          go_wp2_with fail
          refine HTT.out.mono ?_
          intro e w2 hE
          obtain ⟨v3, n3, rfl, hdr3, hn3, hb3⟩ := DR.of_times hE
          clear hE
          obtain ⟨A3, c3, ds3, rfl, hrest⟩ := hdr3
          have HD3 : Hid (DR w2 (.slice A3 n3 c3) n3 (Y * p2)) := Lib.hid ⟨A3, c3, ds3, rfl, hrest⟩
          have HB3 := Lib.hid (keepb HEJ.out hb3)
          have HN3 := Lib.hid hn3
          clear hrest hb3 hn3
          go_wp2_with fail
          go_roundw
          case rel => exact ⟨k - 16, n3, A3, c3, Y * p2, rfl, rfl, by omega, by omega, HD3.out, HPP.out, by have := HN3.out; have := HNK.out; omega, HB3.out⟩
          case measure => have := HPOS.out; simp [intOf]; omega
        · have hk0 : k.toNat = 0 := by omega
          have t2 : decide (0 < k) = false := decide_eq_false hpos
          have HDX := Lib.hid (show DR wj (.slice A2 n2 c2) n2 X by have := HY.out; rw [hk0, Nat.pow_zero, Nat.mul_one] at this; rw [← this]; exact HDJ.out)
          clear hk0 hpos HY HDJ
          obtain ⟨A3, c3, ds, hv3, hrv, hdl, hfg, hfv⟩ := HDX.out
          injection hv3 with h31 h32 h33
          subst h31 h33
          have HRV := Lib.hid hrv
          have HDL := Lib.hid hdl
          have HFG := Lib.hid hfg
          have HFV := Lib.hid hfv
          have hn2b : n2 ≤ 50000 := by have := HN2.out; omega
          have hmk : ∀ W, (Instr.makeSlice 66 (.int .i64 0) (.int .i64 (n2 : Int))).run Tryz.prog W = .ok (.slice (some ⟨W.heap.size, 0, none⟩) 0 n2) (W.alloc (.cells (zs (.int .u8 0) n2).toArray 5)) := fun W => run_mk ei_u8 .i64 .i64 0 n2 (by omega) (by omega) (by omega) W
          have HO := Lib.hid (made_own (e := 5) (z := .int .u8 0) (ok := okB) wj wj.heap.size (Nat.le_refl _) 0 n2 (by omega) (by omega) ⟨0, rfl⟩)
          have HBN := Lib.hid (below_new wj (.cells (zs (.int .u8 0) n2).toArray 5))
          have hnI : (n2 : Int) ≤ 50000 := by omega
          have kn : IntKind.i64.wrap ((n2 : Int) - 1) = (n2 : Int) - 1 := IntWalk.i64_in _ (by omega)
          clear hrv hdl hfg hfv hk1 hk2 HDX
          go_wp2_with fail
          rw [show (zs (.int .u8 0) 0 : List Value) = [] from rfl] at HO
          generalize hW3 : wj.alloc (.cells (zs (.int .u8 0) n2).toArray 5) = W3 at *
          clear hW3 hmk
          go_loopw [9, 10] (fun s9 s10 wr => ∃ (j L : Nat), s10 = .int .i64 ((j : Int) - 1) ∧ j ≤ n2 ∧ OwnR wr wj.heap.size 5 okB s9 L ((tx (fval 10 (ds.drop j))).map bv) ∧ (tx (fval 10 (ds.drop j))).length = L ∧ L + j ≤ n2 ∧ Below wj.heap.size wj wr) (fun _ s10 _ => (intOf s10 + 1).toNat)
          case atStart =>
            have h0 : ds.drop n2 = [] := List.drop_eq_nil_of_le (by rw [HDL.out]; omega)
            exact ⟨n2, 0, rfl, Nat.le_refl _, by rw [h0]; exact HO.out, by rw [h0]; rfl, by omega, HBN.out⟩
          case round =>
            obtain ⟨j, L, rfl, hj, hu, hL, hLj, hbel⟩ := hrel
            obtain ⟨wk, rfl⟩ : ∃ wk : World, wk = wr := ⟨_, rfl⟩
            obtain ⟨Ab, cb, hub, _⟩ := hu.shape
            subst hub
            have HU := Lib.hid hu
            have HL := Lib.hid hL
            have HBL := Lib.hid hbel
            have hsz := hbel.size
            have HHB := Lib.hid (keepb HEJ.out hbel)
            clear hu hL hbel
            cases j with
            | zero =>
              have HST := Lib.hid (RB.of_own HU.out.own)
              have hst := fun c => str_of_RB HST.out c
              have HV := Lib.hid (show tx X = tx (fval 10 (ds.drop 0)) by rw [List.drop_zero, HFV.out])
              clear hj hLj
              generalize tx (fval 10 (ds.drop 0)) = t at *
              go_wp2_with fail
              go_ret
              exact ⟨by rw [HV.out] <;> rfl, HHB.out⟩
            | succ j =>
              have hjd : j < ds.length := by rw [HDL.out]; omega
              have hfv : fval 10 (ds.drop j) = ds[j] + 10 * fval 10 (ds.drop (j + 1)) := by rw [List.drop_eq_getElem_cons hjd, fval_cons]
              obtain ⟨d, hd⟩ : ∃ d, ds[j] = d := ⟨_, rfl⟩
              have hd9 : d < 10 := by rw [← hd]; exact HFG.out _ (List.getElem_mem _)
              rw [hd] at hfv
              have htx := tx_snoc (y := fval 10 (ds.drop (j + 1))) hd9
              rw [← hfv] at htx
              have htl := HL.out
              have hy0 : L = 0 ↔ fval 10 (ds.drop (j + 1)) = 0 := by
                rw [← htl]
                unfold tx
                split
                · rename_i h; simp [h]
                · rename_i h
                  have := List.length_pos_iff.2 (dtext_ne (fval 10 (ds.drop (j + 1))))
                  omega
              obtain ⟨g, o, rfl, hg, hc⟩ := HRV.out.2 (by omega)
              have cK : wk.cell? ⟨g, o + j, none⟩ = some (du d) := by
                rw [HBL.out.cell (p := ⟨g, o + j, none⟩) hg, hc j (by simp; omega)]
                simp [hd]
              have e1 : (((j + 1 : Nat) : Int) - 1) = (j : Int) := by omega
              rw [e1]
              have hjI : (j : Int) ≤ 50000 := by omega
              have hLI : (L : Int) ≤ 50000 := by omega
              have hjn : j < n2 := by omega
              clear hfv hd hc hg e1 hjd htl
              by_cases hz : L = 0 ∧ d = 0
              · obtain ⟨rfl, rfl⟩ := hz
                have hy := hy0.1 rfl
                rw [if_pos ⟨hy, rfl⟩] at htx
                rw [hy, tx_zero] at HU
                have HTX := Lib.hid htx
                clear htx hy0 hy hd9 HL
                go_wp2_with fail
                go_roundw
                case rel => exact ⟨j, 0, by go_num, by omega, by rw [HTX.out]; exact HU.out, by rw [HTX.out]; rfl, by omega, HBL.out⟩
                case measure => simp [intOf]
              · rw [if_neg (by rw [← hy0]; exact hz)] at htx
                obtain ⟨v, hv⟩ : ∃ v, 48 + d = v := ⟨_, rfl⟩
                have kv : (48 : Int) + (d : Int) = (v : Int) := by omega
                have hvb : bv (dch d) = .int .u8 (v : Int) := by unfold bv; rw [dch_toNat hd9, hv]
                have HNEW := Lib.hid (show (tx (fval 10 (ds.drop (j + 1)))).map bv ++ [Value.int .u8 (v : Int)] = (tx (fval 10 (ds.drop j))).map bv by rw [htx, List.map_append, ← hvb]; rfl)
                have HLEN := Lib.hid (show (tx (fval 10 (ds.drop j))).length = L + 1 by rw [htx, List.length_append, HL.out]; rfl)
                have hor : (decide ((0 : Int) < (L : Int)) = true ∧ decide (0 < L) = true) ∨ ((decide ((0 : Int) < (L : Int)) = false ∧ decide (0 < L) = false) ∧ decide ((0 : Int) < (d : Int)) = true ∧ decide (0 < d) = true) := by
                  by_cases h : 0 < L
                  · exact .inl ⟨decide_eq_true (by omega), decide_eq_true h⟩
                  · exact .inr ⟨⟨decide_eq_false (by omega), decide_eq_false h⟩, decide_eq_true (by omega), decide_eq_true (by omega)⟩
                have hdI : (d : Int) < 10 := by omega
                clear htx hy0 hv hvb hz hd9
                rcases hor with ⟨q1, q2⟩ | ⟨⟨q1, q2⟩, q3, q4⟩
                all_goals
                  go_wp2_with (at_builtin; refine wpList_app ei_u8 ⟨0, rfl⟩ rfl (.tmp 54) (.tmp 60) rfl wj.heap.size _ _ _ rfl (HU.out.below (below_new _ _)) _ _ _ _ _ rfl (RV.fresh wk 5 [.int .u8 (v : Int)]) (fun u hu => by simp at hu; subst hu; rfl) (show L + 1 ≤ _ by omega) (show (L + 1) * 1 ≤ _ by omega) (by simp; omega) ?_; intro A5 c5 w5 hu5 hg5 ha5)
                  rw [HNEW.out] at hu5
                  have HU5 := Lib.hid hu5
                  have HE5 := Lib.hid ((HBL.out.alloc hsz (.cells #[.int .u8 (v : Int)] 5)).grown hg5 (by simp; omega) (fun k hk => (HU.out.lt k hk).1))
                  clear hu5 hg5
                  go_wp2_with fail
                  go_roundw
                  case rel => exact ⟨j, L + 1, by go_num, by omega, HU5.out, HLEN.out, by omega, HE5.out⟩
                  case measure => simp [intOf]
end Go.Proofs.YtnajondbdeclmaaGreatDoor

namespace Go.Proofs.YtnajondbdeclmaaGreatDoor
open Go.RowKit
set_option linter.unusedSimpArgs false
set_option linter.unusedVariables false

set_option maxRecDepth 100000 in
theorem rfinite_any (n : Nat) (w : World) (hn : n < 18446744073709551616) :
    Calls Tryz.prog 58 #[.int .u64 (n : Int)] w fun e w' => e = .returned (.bool (finB n)) ∧ w = w' := by
  obtain ⟨z, hz⟩ : ∃ z, n / 4503599627370496 = z := ⟨_, rfl⟩
  obtain ⟨q, hq⟩ : ∃ q, z % 2048 = q := ⟨_, rfl⟩
  have e1 : (n : Int) / 4503599627370496 = (z : Int) := by omega
  have e2 : bits .and .u64 (z : Int) 2047 = (q : Int) := by
    have h := and_low z 11 (by unfold W64; omega) (by decide)
    rw [show (2 : Nat) ^ 11 = 2048 from rfl, hq] at h
    exact h
  have ef : finB n = ((q : Int) != 2047) := by
    unfold finB most
    rw [Bool.eq_iff_iff]
    simp
    omega
  have HF := Lib.hid ef
  have hnI : (n : Int) ≤ 18446744073709551615 := by omega
  have hqI : (q : Int) ≤ 2047 := by omega
  generalize finB n = f at *
  clear ef hn hz hq
  go_enter Tryz.func58, Tryz.ntmps58
  go_wp2_with fail
  go_ret
  exact ⟨by rw [HF.out] <;> rfl, rfl⟩
theorem conv_wi (v : Nat) (hv : v < 9223372036854775808) (w : World) : (convert 22 3 (.int .u64 (v : Int))).run Tryz.prog w = .ok (.int .i64 (v : Int)) w := by
  have h : IntKind.i64.wrap (v : Int) = (v : Int) := IntWalk.i64_in _ (by omega)
  go_simp
set_option maxRecDepth 100000 in
theorem rparts_at (n z q r : Nat) (w : World) (hn : n < 18446744073709551616) (hz : n / 4503599627370496 = z) (hq : z % 2048 = q) (hr : n % 4503599627370496 = r) :
    (q = 0 → Calls Tryz.prog 71 #[.int .u64 n] w fun e w' => e = .returned (.tuple #[.int .u64 (r : Int), .int .i64 (-1074)]) ∧ w = w') ∧
    (q ≠ 0 → Calls Tryz.prog 71 #[.int .u64 n] w fun e w' => e = .returned (.tuple #[.int .u64 ((r + 4503599627370496 : Nat) : Int), .int .i64 ((q : Int) - 1075)]) ∧ w = w') := by
  have e1 : (n : Int) / 4503599627370496 = (z : Int) := by omega
  have hql : q < 2048 := by omega
  have hrl : r < 4503599627370496 := by omega
  have e2 : bits .and .u64 (z : Int) 2047 = (q : Int) := by
    have h := and_low z 11 (by unfold W64; omega) (by decide)
    rw [show (2 : Nat) ^ 11 = 2048 from rfl, hq] at h
    exact h
  have e3 : bits .and .u64 (n : Int) 4503599627370495 = (r : Int) := by
    have h := and_low n 52 (by unfold W64; omega) (by decide)
    rw [show (2 : Nat) ^ 52 = 4503599627370496 from rfl, hr] at h
    exact h
  have e4 : IntKind.u64.wrap (4503599627370496 + (r : Int)) = ((r + 4503599627370496 : Nat) : Int) := by
    rw [show (4503599627370496 : Int) + (r : Int) = ((r + 4503599627370496 : Nat) : Int) by omega]
    exact wrapN _ (by unfold W64; omega)
  have e5 : (4503599627370496 : Int) + (r : Int) = ((r + 4503599627370496 : Nat) : Int) := by omega
  have hnI : (n : Int) ≤ 18446744073709551615 := by omega
  have hqI : (q : Int) ≤ 2047 := by omega
  have hrI : (r : Int) < 4503599627370496 := by omega
  have cq := conv_wi q (by omega)
  clear hn hz hq hr hql hrl
  refine ⟨fun h => ?_, fun h0 => ?_⟩
  · subst h
    have e0 : ((0 : Nat) : Int) = 0 := rfl
    rw [e0] at e2 cq
    clear e0 hqI e4 e5
    go_enter Tryz.func71, Tryz.ntmps71
    go_wp2_with fail
    go_ret2
    exact ⟨rfl, rfl⟩
  · have t2 : ((q : Int) == 0) = false := by rw [beq_eq_false_iff_ne]; omega
    have k5 : IntKind.i64.wrap ((q : Int) - 1075) = (q : Int) - 1075 := IntWalk.i64_in _ (by omega)
    generalize hR : r + 4503599627370496 = R at *
    clear h0 hR
    go_enter Tryz.func71, Tryz.ntmps71
    go_wp2_with fail
    go_ret2
    exact ⟨rfl, rfl⟩
theorem rparts_fin (n b : Nat) (w : World) (hn : n < 18446744073709551616) (hb : n % 9223372036854775808 = b) (hf : b ≤ most) :
    Calls Tryz.prog 71 #[.int .u64 n] w fun e w' => e = .returned (.tuple #[.int .u64 (fltM b : Nat), .int .i64 (fltK b)]) ∧ w = w' := by
  subst hb
  have hq0 : n / 4503599627370496 % 2048 = n % 9223372036854775808 / 4503599627370496 := by omega
  have hr0 : n % 4503599627370496 = n % 9223372036854775808 % 4503599627370496 := by omega
  obtain ⟨h2, h3⟩ := rparts_at n _ _ _ w hn rfl hq0 hr0
  unfold fltM fltK
  by_cases h0 : n % 9223372036854775808 / 4503599627370496 = 0
  · rw [if_pos h0, if_pos h0]
    exact h2 h0
  · rw [if_neg h0, if_neg h0]
    exact h3 h0
set_option maxRecDepth 100000 in
theorem rsize_any (n b : Nat) (w : World) (hn : n < 18446744073709551616) (hb : n % 9223372036854775808 = b) (hf : b ≤ most) :
    Calls Tryz.prog 59 #[.int .u64 n] w fun e w' => e = .returned (.string ⟨(tx (sz b)).toArray⟩) ∧ Below w.heap.size w w' := by
  obtain ⟨hm1, hk1, hk2⟩ := flt_bounds hf
  have HP := Lib.hid (fun W => rparts_fin n b W hn hb hf)
  have HS := Lib.hid (fun W => by
    have := rscaled_any (fltM b) (fltK b) W (by omega) (by omega) hk2
    rwa [sv5_sz] at this)
  generalize tx (sz b) = t at *
  generalize fltM b = m at *
  generalize fltK b = k at *
  clear hn hb hf hm1 hk1 hk2
  go_enter Tryz.func59, Tryz.ntmps59
  go_wp2_with fail
  refine (HP.out _).mono ?_
  rintro e w1 ⟨rfl, rfl⟩
  go_wp2_with fail
  refine (HS.out _).mono ?_
  rintro e w2 ⟨rfl, hb⟩
  go_wp2_with fail
  go_ret
  exact ⟨rfl, hb⟩
theorem tx_val (x : Nat) : dval (tx x) = x := by
  unfold tx
  split
  · rename_i h; rw [h]; rfl
  · exact dtext_val x
theorem tx_digits (x : Nat) : ∀ c ∈ tx x, isD c = true := by
  intro c hc
  unfold tx at hc
  split at hc
  · simp at hc
  · exact dtext_digits x c hc
theorem tx_lt (x : Nat) : x < 10 ^ (tx x).length := by
  have := dval_lt _ (tx_digits x)
  rwa [tx_val] at this
theorem tx_ge {x : Nat} (h : 0 < x) : 10 ^ ((tx x).length - 1) ≤ x := by rw [tx_pos h]; exact lenD_ge h
theorem tx_shorter {x y : Nat} (h : (tx x).length < (tx y).length) : x < y := by
  have hy : 0 < y := by
    rcases Nat.eq_zero_or_pos y with h0 | h0
    · rw [h0] at h; simp [tx] at h
    · exact h0
  have h1 := tx_lt x
  have h2 := tx_ge hy
  have h3 := Nat.pow_le_pow_right (show 0 < 10 by decide) (show (tx x).length ≤ (tx y).length - 1 by omega)
  omega
set_option maxRecDepth 100000 in
set_option maxHeartbeats 2000000 in
theorem rcmp_any (x y : Nat) (w : World) (hx : (tx x).length ≤ 100000) (hy : (tx y).length ≤ 100000) :
    Calls Tryz.prog 64 #[.string ⟨(tx x).toArray⟩, .string ⟨(tx y).toArray⟩] w fun e w' => e = .returned (.int .i64 (cmpI x y)) ∧ w = w' := by
  have hs1 := tx_shorter (x := x) (y := y)
  have hs2 := tx_shorter (x := y) (y := x)
  have hl1 := less_val (tx x) (tx y) (tx_digits x) (tx_digits y)
  have he1 := eq_val (tx_digits x) (tx_digits y)
  rw [tx_val, tx_val] at hl1 he1
  generalize tx x = a at *
  generalize tx y = b at *
  have haI : (a.length : Int) ≤ 100000 := by omega
  have hbI : (b.length : Int) ≤ 100000 := by omega
  rcases Nat.lt_trichotomy a.length b.length with h | h | h
  · have HV := Lib.hid (cmpI_lt (hs1 h))
    generalize cmpI x y = c at *
    have t1 : ((a.length : Int) == (b.length : Int)) = false := by rw [beq_eq_false_iff_ne]; omega
    have t1' : (a.length == b.length) = false := by rw [beq_eq_false_iff_ne]; omega
    have t3 : ((a.length : Int) != (b.length : Int)) = true := by rw [bne_iff_ne]; omega
    have t3' : (a.length != b.length) = true := by rw [bne_iff_ne]; omega
    have t4 : ¬ ((a.length : Int) = (b.length : Int)) := by omega
    have t4' : ¬ (a.length = b.length) := by omega
    have t2 : decide ((a.length : Int) < (b.length : Int)) = true := decide_eq_true (by omega)
    have t2' : decide (a.length < b.length) = true := decide_eq_true h
    clear hs1 hs2 hl1 he1 h hx hy
    go_enter Tryz.func64, Tryz.ntmps64
    go_wp2_with fail
    go_ret
    exact ⟨by rw [HV.out] <;> rfl, rfl⟩
  · have hl := hl1 h
    have he := he1 h
    have t1 : ((a.length : Int) == (b.length : Int)) = true := by rw [beq_iff_eq]; omega
    have t1' : (a.length == b.length) = true := by rw [beq_iff_eq]; exact h
    rcases Nat.lt_trichotomy x y with k | k | k
    · have HV := Lib.hid (cmpI_lt k)
      have k1 : Op.bytesLess a b = true := by rw [hl]; exact decide_eq_true k
      generalize cmpI x y = c at *
      clear hs1 hs2 hl1 he1 hx hy k hl he
      rw [h] at haI
      have HL := Lib.hid h
      clear t1 t1' haI
      go_enter Tryz.func64, Tryz.ntmps64
      go_wp2_with fail
      go_ret
      exact ⟨by rw [HV.out] <;> rfl, rfl⟩
    · have HV := Lib.hid (show cmpI x y = 0 by rw [k]; exact cmpI_eq y)
      have k1 : Op.bytesLess a b = false := by rw [hl]; exact decide_eq_false (by omega)
      have k2 : a = b := by
        have : (a == b) = true := by rw [he]; exact decide_eq_true k
        exact beq_iff_eq.1 this
      generalize cmpI x y = c at *
      clear hs1 hs2 hl1 he1 hx hy k hl he h t1 t1'
      subst k2
      go_enter Tryz.func64, Tryz.ntmps64
      go_wp2_with fail
      go_ret
      exact ⟨by rw [HV.out] <;> rfl, rfl⟩
    · have HV := Lib.hid (cmpI_gt k)
      have k1 : Op.bytesLess a b = false := by rw [hl]; exact decide_eq_false (by omega)
      have k2 : ¬ a = b := fun e => by
        have : (a == b) = false := by rw [he]; exact decide_eq_false (by omega)
        rw [e] at this
        simp at this
      have k3 : (a == b) = false := by rw [beq_eq_false_iff_ne]; exact k2
      generalize cmpI x y = c at *
      clear hs1 hs2 hl1 he1 hx hy k hl he t1 t1'
      go_enter Tryz.func64, Tryz.ntmps64
      go_wp2_with fail
      go_ret
      exact ⟨by rw [HV.out] <;> rfl, rfl⟩
  · have HV := Lib.hid (cmpI_gt (hs2 h))
    generalize cmpI x y = c at *
    have t1 : ((a.length : Int) == (b.length : Int)) = false := by rw [beq_eq_false_iff_ne]; omega
    have t1' : (a.length == b.length) = false := by rw [beq_eq_false_iff_ne]; omega
    have t3 : ((a.length : Int) != (b.length : Int)) = true := by rw [bne_iff_ne]; omega
    have t3' : (a.length != b.length) = true := by rw [bne_iff_ne]; omega
    have t4 : ¬ ((a.length : Int) = (b.length : Int)) := by omega
    have t4' : ¬ (a.length = b.length) := by omega
    have t2 : decide ((a.length : Int) < (b.length : Int)) = false := decide_eq_false (by omega)
    have t2' : decide (a.length < b.length) = false := decide_eq_false (by omega)
    clear hs1 hs2 hl1 he1 h hx hy
    go_enter Tryz.func64, Tryz.ntmps64
    go_wp2_with fail
    go_ret
    exact ⟨by rw [HV.out] <;> rfl, rfl⟩
set_option maxRecDepth 100000 in
theorem rnoughts_any (n : Nat) (w : World) (hn : n ≤ 100000) :
    Calls Tryz.prog 61 #[.int .i64 (n : Int)] w fun e w' => e = .returned (.string ⟨(List.replicate n 48).toArray⟩) ∧ w = w' := by
  have hnI : (n : Int) ≤ 100000 := by omega
  go_enter Tryz.func61, Tryz.ntmps61
  go_wp2_with fail
  go_loop [3, 4] (fun s3 s4 => ∃ k : Nat, k ≤ n ∧ s3 = .string ⟨(List.replicate k 48).toArray⟩ ∧ s4 = .int .i64 k) (fun _ s4 => n - (intOf s4).toNat)
  case atStart => exact ⟨0, Nat.zero_le _, rfl, rfl⟩
  case round =>
    obtain ⟨k, hk, rfl, rfl⟩ := hrel
    by_cases hlt : k < n
    · have t1 : decide ((k : Int) < (n : Int)) = true := decide_eq_true (by omega)
      have t1' : decide (k < n) = true := decide_eq_true hlt
      have hcat := sv_cat (List.replicate k 48) [48]
      have HS := Lib.hid (show List.replicate (k + 1) (48 : UInt8) = List.replicate k 48 ++ [48] from List.replicate_succ')
      have hl : ((List.replicate k (48 : UInt8)).length : Int) ≤ 100000 := by rw [List.length_replicate]; omega
      generalize List.replicate k (48 : UInt8) = L at *
      have hlt2 : (k : Int) < (n : Int) := by omega
      have HLT := Lib.hid hlt
      clear hlt hk
      go_wp2_with fail
      go_round
      case rel => exact ⟨k + 1, HLT.out, by rw [HS.out], by go_num⟩
      case measure => simp [intOf]; have := HLT.out; omega
    · obtain rfl : k = n := by omega
      have t1 : decide ((k : Int) < (k : Int)) = false := by simp
      have t1' : decide (k < k) = false := by simp
      clear hlt hk
      go_wp2_with fail
      go_ret
      exact ⟨rfl, rfl⟩
end Go.Proofs.YtnajondbdeclmaaGreatDoor

namespace Go.Proofs.YtnajondbdeclmaaGreatDoor
open Go.RowKit
attribute [local go_sem] SGives_value SGives_skip SGives_enter
set_option linter.unusedSimpArgs false
set_option linter.unusedVariables false

set_option maxRecDepth 100000 in
set_option maxHeartbeats 4000000 in
theorem rends_walk (n m r : Nat) (k : Int) (f t : List UInt8) (w : World)
    (HP : Hid (∀ W, Calls Tryz.prog 71 #[.int .u64 n] W fun e w' => e = .returned (.tuple #[.int .u64 (m : Nat), .int .i64 k]) ∧ W = w'))
    (KT : Hid (∀ W, Calls Tryz.prog 103 #[.int .u64 ((2 * m + 1 : Nat) : Int), .int .i64 (k - 1)] W fun e w' => e = .returned (.string ⟨t.toArray⟩) ∧ Below W.heap.size W w'))
    (KF1 : Hid (0 < m → m = 4503599627370496 → -1074 < k → ∀ W, Calls Tryz.prog 103 #[.int .u64 ((4 * m - 1 : Nat) : Int), .int .i64 (k - 2)] W fun e w' => e = .returned (.string ⟨f.toArray⟩) ∧ Below W.heap.size W w'))
    (KF2 : Hid (0 < m → ¬ (m = 4503599627370496 ∧ -1074 < k) → ∀ W, Calls Tryz.prog 103 #[.int .u64 ((2 * m - 1 : Nat) : Int), .int .i64 (k - 1)] W fun e w' => e = .returned (.string ⟨f.toArray⟩) ∧ Below W.heap.size W w'))
    (HF0 : Hid (m = 0 → f = [])) (hm : m < 9007199254740992) (hk1 : -1075 ≤ k) (hk2 : k ≤ 971) (hr : m % 2 = r) :
    Calls Tryz.prog 60 #[.int .u64 n] w fun e w' => e = .returned (.tuple #[.string ⟨f.toArray⟩, .string ⟨t.toArray⟩, .bool (((r : Nat) : Int) == 0)]) ∧ Below w.heap.size w w' := by
  have hmI : (m : Int) < 9007199254740992 := by omega
  go_enter Tryz.func60, Tryz.ntmps60
  go_wp2_with fail
  refine (HP.out _).mono ?_
  rintro e w1 ⟨rfl, rfl⟩
  go_upto_block 0 with fail
  go_cut [2] from 12 to 33 (fun s2 wx => s2 = .string ⟨f.toArray⟩ ∧ Below w.heap.size w wx)
  case first =>
    by_cases hz : m = 0
    · have HV := Lib.hid (HF0.out hz)
      subst hz
      clear hm
      go_wp2_with fail
      go_meet
      exact ⟨by rw [HV.out], Below.refl _ _⟩
    have hb0 : 0 < m := by omega
    have t1 : ((m : Int) == 0) = false := by rw [beq_eq_false_iff_ne]; omega
    have t1' : (m == 0) = false := by rw [beq_eq_false_iff_ne]; omega
    by_cases h1 : m = 4503599627370496 ∧ -1074 < k
    · have HC := Lib.hid (KF1.out hb0 h1.1 h1.2)
      obtain ⟨h1, h2⟩ := h1
      subst h1
      have t3 : decide (-1074 < k) = true := decide_eq_true h2
      have k1 : IntKind.i64.wrap (k - 2) = k - 2 := IntWalk.i64_in _ (by omega)
      have e0 : ((4503599627370496 : Nat) : Int) = 4503599627370496 := rfl
      have e1 : ((4 * 4503599627370496 - 1 : Nat) : Int) = 18014398509481983 := rfl
      rw [e1] at HC
      rw [e0]
      clear hz hb0 t1 t1' hm h2 e0 e1 hmI hr
      go_wp2_with fail
      refine (HC.out _).mono ?_
      rintro e w1 ⟨rfl, hb⟩
      go_wp2_with fail
      go_meet
      exact ⟨rfl, hb⟩
    · have HC := Lib.hid (KF2.out hb0 h1)
      have hor : (((m : Int) == 4503599627370496) = false ∧ (m == 4503599627370496) = false) ∨ ((((m : Int) == 4503599627370496) = true ∧ (m == 4503599627370496) = true) ∧ decide (-1074 < k) = false) := by
        by_cases h2 : m = 4503599627370496
        · exact .inr ⟨⟨by rw [beq_iff_eq]; omega, by rw [beq_iff_eq]; exact h2⟩, decide_eq_false fun h3 => h1 ⟨h2, h3⟩⟩
        · exact .inl ⟨by rw [beq_eq_false_iff_ne]; omega, by rw [beq_eq_false_iff_ne]; exact h2⟩
      obtain ⟨m2, hm2⟩ : ∃ m2, 2 * m = m2 := ⟨_, rfl⟩
      obtain ⟨m3, hm3⟩ : ∃ m3, m2 - 1 = m3 := ⟨_, rfl⟩
      rw [hm2, hm3] at HC
      have k1 : IntKind.i64.wrap (k - 1) = k - 1 := IntWalk.i64_in _ (by omega)
      have k2 : (2 : Int) * (m : Int) = (m2 : Int) := by omega
      have k2' : IntKind.u64.wrap ((2 : Int) * (m : Int)) = (m2 : Int) := by rw [k2]; exact wrapN _ (by unfold W64; omega)
      have k3 : (m2 : Int) - 1 = (m3 : Int) := by omega
      have k3' : IntKind.u64.wrap ((m2 : Int) - 1) = (m3 : Int) := by rw [k3]; exact wrapN _ (by unfold W64; omega)
      clear hz h1 hb0 hm hm2 hm3 hr
      rcases hor with ⟨q1, q2⟩ | ⟨⟨q1, q2⟩, q3⟩
      all_goals
        go_wp2_with fail
        refine (HC.out _).mono ?_
        rintro e w1 ⟨rfl, hb⟩
        go_wp2_with fail
        go_meet
        exact ⟨rfl, hb⟩
  case rest =>
  obtain ⟨rfl, hbx⟩ := hcut
  have HBX := Lib.hid hbx
  obtain ⟨m2, hm2⟩ : ∃ m2, 2 * m = m2 := ⟨_, rfl⟩
  obtain ⟨m3, hm3⟩ : ∃ m3, m2 + 1 = m3 := ⟨_, rfl⟩
  rw [hm2, hm3] at KT
  have k1 : IntKind.i64.wrap (k - 1) = k - 1 := IntWalk.i64_in _ (by omega)
  have k2 : (2 : Int) * (m : Int) = (m2 : Int) := by omega
  have k2' : IntKind.u64.wrap ((2 : Int) * (m : Int)) = (m2 : Int) := by rw [k2]; exact wrapN _ (by unfold W64; omega)
  have k3 : (m2 : Int) + 1 = (m3 : Int) := by omega
  have k3' : IntKind.u64.wrap ((m2 : Int) + 1) = (m3 : Int) := by rw [k3]; exact wrapN _ (by unfold W64; omega)
  have e3 : (m : Int) % 2 = (r : Int) := by omega
  have e4 : Int.tmod (m : Int) 2 = (r : Int) := by rw [Int.tmod_eq_emod_of_nonneg (by omega)]; exact e3
  clear hbx hm hm2 hm3 hr
  go_wp2_with fail
  refine (KT.out _).mono ?_
  rintro e w2 ⟨rfl, hb⟩
  have HBY := Lib.hid (keepb HBX.out hb)
  clear hb
  go_wp2_with fail
  go_ret3
  exact ⟨rfl, HBY.out⟩
theorem rends_any (n b : Nat) (w : World) (hn : n < 18446744073709551616) (hb : n % 9223372036854775808 = b) (hf : b ≤ most) :
    Calls Tryz.prog 60 #[.int .u64 n] w fun e w' => e = .returned (.tuple #[.string ⟨(tx (fromN b)).toArray⟩, .string ⟨(tx (toN b)).toArray⟩, .bool (b % 2 == 0)]) ∧ Below w.heap.size w w' := by
  obtain ⟨hm, hk1, hk2⟩ := flt_bounds hf
  have hm0 : fltM b = 0 ↔ b = 0 := (flt_form b 1074 rfl).2.2.2
  have hpar := fltM_par b
  have two : (2 : Nat) ^ 53 = 9007199254740992 := rfl
  have two6 : (2 : Nat) ^ 56 = 72057594037927936 := rfl
  have hbp : (b % 2 == 0) = (((b % 2 : Nat) : Int) == 0) := by
    rcases Nat.mod_two_eq_zero_or_one b with h | h <;> rw [h] <;> rfl
  rw [hbp]
  refine rends_walk n (fltM b) (b % 2) (fltK b) (tx (fromN b)) (tx (toN b)) w ?_ ?_ ?_ ?_ ?_ (by omega) (by omega) hk2 hpar
  · exact Lib.hid (fun W => rparts_fin n b W hn hb hf)
  · refine Lib.hid (fun W => ?_)
    have := rscaled_any (2 * fltM b + 1) (fltK b - 1) W (by omega) (by omega) (by omega)
    rwa [sv5_to] at this
  · refine Lib.hid (fun h0 h1 h2 W => ?_)
    have := rscaled_any (4 * fltM b - 1) (fltK b - 2) W (by omega) (by omega) (by omega)
    rwa [(sv5_from b (by omega)).1 ⟨h1, h2⟩] at this
  · refine Lib.hid (fun h0 h1 W => ?_)
    have := rscaled_any (2 * fltM b - 1) (fltK b - 1) W (by omega) (by omega) (by omega)
    rwa [(sv5_from b (by omega)).2 h1] at this
  · refine Lib.hid (fun h0 => ?_)
    have hb0 := hm0.1 h0
    rw [hb0]
    rfl
set_option maxRecDepth 100000 in
set_option maxHeartbeats 4000000 in
theorem rinside_any (x F T : Nat) (cl : Bool) (w : World) (hx : (tx x).length ≤ 100000) (hF : (tx F).length ≤ 100000) (hT : (tx T).length ≤ 100000) :
    Calls Tryz.prog 63 #[.string ⟨(tx x).toArray⟩, .string ⟨(tx F).toArray⟩, .string ⟨(tx T).toArray⟩, .bool cl] w fun e w' => e = .returned (.bool (insC (cmpI x F) (cmpI x T) cl)) ∧ w = w' := by
  have HC1 := Lib.hid (fun W => rcmp_any x F W hx hF)
  have HC2 := Lib.hid (fun W => rcmp_any x T W hx hT)
  have r1 := cmpI_range x F
  have r2 := cmpI_range x T
  generalize cmpI x F = u at *
  generalize cmpI x T = v at *
  generalize tx x = a at *
  generalize tx F = f at *
  generalize tx T = t at *
  have R1 := Lib.hid r1
  have R2 := Lib.hid r2
  clear hx hF hT r1 r2
  go_enter Tryz.func63, Tryz.ntmps63
  go_wp2_with fail
  refine (HC1.out _).mono ?_
  rintro e w1 ⟨rfl, rfl⟩
  go_wp2_with fail
  refine (HC2.out _).mono ?_
  rintro e w1 ⟨rfl, rfl⟩
  clear HC1 HC2
  rcases R1.out with rfl | rfl | rfl
  all_goals
    rcases R2.out with rfl | rfl | rfl
    all_goals
      cases cl
      all_goals
        go_wp2_with fail
        go_ret
        exact ⟨rfl, rfl⟩
end Go.Proofs.YtnajondbdeclmaaGreatDoor

namespace Go.Proofs.YtnajondbdeclmaaGreatDoor
open Go.RowKit
set_option linter.unusedSimpArgs false
set_option linter.unusedVariables false

set_option maxRecDepth 100000 in
set_option maxHeartbeats 4000000 in
theorem rnext_any (s : List UInt8) (hd : ∀ c ∈ s, isD c = true) (h0 : s ≠ []) (hh : s.head? ≠ some 48) (hl : s.length ≤ 100000) (w : World) :
    Calls Tryz.prog 62 #[.string ⟨s.toArray⟩] w fun e w' => e = .returned (.string ⟨(dtext (dval s + 1)).toArray⟩) ∧ Below w.heap.size w w' := by
  obtain ⟨k, W0, hcv, hbm, hbl⟩ := tobytes_at s w
  have HD := Lib.hid hd
  have HH := Lib.hid hh
  obtain ⟨N, hN⟩ : ∃ N, s.length = N := ⟨_, rfl⟩
  have HN := Lib.hid hN
  rw [hN] at hcv
  have hNI : (N : Int) ≤ 100000 := by omega
  have hN0 : 0 < N := by rw [← hN]; exact List.length_pos_iff.2 h0
  have k1 : IntKind.i64.wrap ((N : Int) - 1) = (N : Int) - 1 := IntWalk.i64_in _ (by omega)
  have BS := Lib.hid hbm
  have BB := Lib.hid hbl
  clear hd h0 hh hl hN hbm hbl
  go_enter Tryz.func62, Tryz.ntmps62
  go_wp2_with fail
  clear hcv
  go_loopw [4] (fun s4 wr => ∃ (a : List UInt8) (j : Nat), s = a ++ List.replicate j 57 ∧ s4 = .int .i64 ((a.length : Int) - 1) ∧ BM wr w.heap.size (a ++ List.replicate j 48 ++ List.replicate k 0) ∧ Below w.heap.size w wr) (fun s4 _ => (intOf s4 + 1).toNat)
  case atStart => exact ⟨s, 0, by simp, by rw [HN.out], by simpa using BS.out, BB.out⟩
  case round =>
    obtain ⟨a, j, hs, rfl, hblk, hbel⟩ := hrel
    obtain ⟨wi, rfl⟩ : ∃ wi : World, wi = wr := ⟨_, rfl⟩
    have HS := Lib.hid hs
    have HB := Lib.hid hblk
    have HE := Lib.hid hbel
    clear hs hblk hbel
    have hlen : a.length + j = N := by rw [← HN.out, HS.out]; simp
    rcases List.eq_nil_or_concat a with rfl | ⟨a', c, rfl⟩
    · have hco := HB.out.str N (N + k) (by simp; simp at hlen; omega)
      have htk : (([] : List UInt8) ++ List.replicate j 48 ++ List.replicate k 0).take N = List.replicate j 48 := by
        simp at hlen
        subst hlen
        simp
      rw [htk] at hco
      have HV := Lib.hid (show dtext (dval s + 1) = [49] ++ List.replicate j 48 by rw [HS.out, List.nil_append, ← inc_all]; rfl)
      have hcat := sv_cat [49] (List.replicate j 48)
      have hjI : ((List.replicate j (48 : UInt8)).length : Int) ≤ 100000 := by rw [List.length_replicate]; simp at hlen; omega
      have e1 : (([] : List UInt8).length : Int) - 1 = -1 := rfl
      rw [e1]
      clear hlen e1 htk
      generalize List.replicate j (48 : UInt8) = Z at *
      go_wp2_with fail
      go_ret
      exact ⟨by rw [HV.out] <;> rfl, HE.out⟩
    · rw [List.concat_eq_append] at *
      obtain ⟨M, hM⟩ : ∃ M, a'.length = M := ⟨_, rfl⟩
      have e1 : ((a' ++ [c]).length : Int) - 1 = (M : Int) := by rw [List.length_append, List.length_singleton]; omega
      have hMN : M + 1 + j = N := by rw [← hlen, List.length_append, List.length_singleton, hM]
      have hcd := of_decide_eq_true (HD.out c (by rw [HS.out]; simp))
      have hLM : M < (a' ++ [c] ++ List.replicate j 48 ++ List.replicate k 0).length := by simp; omega
      have hget : (a' ++ [c] ++ List.replicate j 48 ++ List.replicate k 0)[M]'hLM = c := by
        subst hM
        simp
      obtain ⟨x, hx⟩ : ∃ x, c.toNat = x := ⟨_, rfl⟩
      have cM : wi.cell? ⟨w.heap.size, M, none⟩ = some (.int .u8 (x : Int)) := by rw [HB.out.cell M hLM, hget]; unfold bv; rw [hx]
      have fM : wi.frozen? ⟨w.heap.size, M, none⟩ = false := HB.out.frozen M hLM
      have hMI : (M : Int) ≤ 100000 := by omega
      have t0 : decide ((0 : Int) ≤ (M : Int)) = true := decide_eq_true (by omega)
      have t0' : decide ((M : Int) < 0) = false := decide_eq_false (by omega)
      have hMlt : M < N := by omega
      have hxI : (x : Int) ≤ 57 := by omega
      rw [e1]
      have HX := Lib.hid hx
      have HCD := Lib.hid hcd
      have HM := Lib.hid hM
      have HMN := Lib.hid hMN
      clear e1 hget hlen hx hcd hM hMN
      by_cases h9 : x = 57
      · have hc57 : c = 57 := by
          apply UInt8.toNat_inj.1
          rw [HX.out, h9]
          rfl
        have t1 : ((x : Int) == 57) = true := by rw [beq_iff_eq]; omega
        have t1' : (x == 57) = true := by rw [beq_iff_eq]; exact h9
        have HB2 := Lib.hid (HB.out.set M 48)
        have hs2 : (a' ++ [c] ++ List.replicate j 48 ++ List.replicate k 0).set M 48 = a' ++ List.replicate (j + 1) 48 ++ List.replicate k 0 := by
          have h1 := HM.out
          subst h1
          simp [List.replicate_succ]
        rw [hs2] at HB2
        have hr48 : bv 48 = .int .u8 48 := rfl
        rw [hr48] at HB2
        have HE2 := Lib.hid (HE.out.setCell (p := ⟨w.heap.size, M, none⟩) (Nat.le_refl _) (.int .u8 48))
        have HSS := Lib.hid (show s = a' ++ List.replicate (j + 1) 57 by rw [HS.out, hc57, List.replicate_succ]; simp)
        have km : IntKind.i64.wrap ((M : Int) - 1) = (M : Int) - 1 := IntWalk.i64_in _ (by omega)
        subst h9
        clear hs2 hr48 hc57 hLM
        go_wp2_with fail
        go_roundw
        case rel => exact ⟨a', j + 1, HSS.out, by rw [HM.out], HB2.out, HE2.out⟩
        case measure => simp [intOf]
      · have t1 : ((x : Int) == 57) = false := by rw [beq_eq_false_iff_ne]; omega
        have t1' : (x == 57) = false := by rw [beq_eq_false_iff_ne]; exact h9
        obtain ⟨y, hy⟩ : ∃ y, x + 1 = y := ⟨_, rfl⟩
        have HY := Lib.hid hy
        have ky : (x : Int) + 1 = (y : Int) := by omega
        have hy57 : y ≤ 57 := by have := HCD.out; have := HX.out; omega
        have hyc : (UInt8.ofNat y).toNat = y := by rw [UInt8.toNat_ofNat']; exact Nat.mod_eq_of_lt (by omega)
        have HB1 := Lib.hid (HB.out.set M (UInt8.ofNat y))
        have hs1 : (a' ++ [c] ++ List.replicate j 48 ++ List.replicate k 0).set M (UInt8.ofNat y) = a' ++ [UInt8.ofNat y] ++ List.replicate j 48 ++ List.replicate k 0 := by
          have h1 := HM.out
          subst h1
          simp
        rw [hs1] at HB1
        have hrv : bv (UInt8.ofNat y) = .int .u8 (y : Int) := by unfold bv; rw [hyc]
        rw [hrv] at HB1
        have HE1 := Lib.hid (HE.out.setCell (p := ⟨w.heap.size, M, none⟩) (Nat.le_refl _) (.int .u8 (y : Int)))
        have HV := Lib.hid (show dtext (dval s + 1) = a' ++ [UInt8.ofNat y] ++ List.replicate j 48 by
          rw [HS.out, ← inc_stop (a := a') (c := c) (j := j) (fun z hz => HD.out z (by rw [HS.out]; exact List.mem_append_left _ hz)) (by have := HX.out; have := HY.out; omega) (by
            intro h
            apply HH.out
            rw [HS.out, List.head?_append, h]
            rfl), HX.out, HY.out])
        have hco := HB1.out.str N (N + k) (by have := HM.out; have := HMN.out; simp; omega)
        have htk : (a' ++ [UInt8.ofNat y] ++ List.replicate j 48 ++ List.replicate k 0).take N = a' ++ [UInt8.ofNat y] ++ List.replicate j 48 := by
          have h1 := HM.out
          have h2 := HMN.out
          rw [List.take_append_of_le_length (by simp; omega), List.take_of_length_le (by simp; omega)]
        rw [htk] at hco
        clear h9 hy hy57 hyc hs1 hrv htk hLM
        generalize a' ++ [UInt8.ofNat y] ++ List.replicate j 48 = Z at *
        go_wp2_with fail
        go_ret
        exact ⟨by rw [HV.out] <;> rfl, HE1.out⟩

theorem noughtsR_is {l : List UInt8} (h : l.getLast? ≠ some 48) : noughtsR l = l := by
  unfold noughtsR
  cases hr : l.reverse with
  | nil =>
    have : l = [] := by simpa using hr
    rw [this]; rfl
  | cons c m =>
    rw [List.dropWhile_cons, if_neg]
    · rw [← hr, List.reverse_reverse]
    · intro hc
      apply h
      have e : c = 48 := by simpa using hc
      have h2 := congrArg List.reverse hr
      rw [List.reverse_reverse] at h2
      rw [h2, List.getLast?_reverse, List.head?_cons, e]
set_option maxRecDepth 100000 in
theorem rrow_any (X : Nat) (hX : 0 < X) (w : World) (hl : (dtext X).length ≤ 100000) :
    Calls Tryz.prog 66 #[.string ⟨(dtext X).toArray⟩] w fun e w' => e = .returned (.tuple #[.string ⟨(rowN X).1.toArray⟩, .int .i64 (rowN X).2]) ∧ w = w' := by
  have hlead := row_lead hX
  obtain ⟨k, hk⟩ := noughtsR_spec (dtext X)
  have e1 : (rowN X).1 = noughtsR (dtext X) := rfl
  have e2 : (rowN X).2 = ((dtext X).length : Int) - 1075 := rfl
  rw [e1, e2]
  rw [e1] at hlead
  have hk1 : IntKind.i64.wrap (((dtext X).length : Int) - 1075) = ((dtext X).length : Int) - 1075 := IntWalk.i64_in _ (by omega)
  have hln := congrArg List.length hk
  rw [List.length_append, List.length_replicate] at hln
  generalize noughtsR (dtext X) = R at *
  obtain ⟨L, hL⟩ : ∃ L, (dtext X).length = L := ⟨_, rfl⟩
  rw [hL] at hk1 hl hln ⊢
  have HLD := Lib.hid hlead
  have HK := Lib.hid hk
  have hR0 : 0 < R.length := List.length_pos_iff.2 hlead.2.1
  have hLI : (L : Int) ≤ 100000 := by omega
  have HLN := Lib.hid hln
  have HR0 := Lib.hid hR0
  generalize dtext X = s at *
  clear hlead hk hln hl e1 e2 hR0
  go_enter Tryz.func66, Tryz.ntmps66
  go_wp2_with fail
  go_loop [0] (fun s0 => ∃ j : Nat, j ≤ k ∧ s0 = .string ⟨(R ++ List.replicate j 48).toArray⟩) (fun s0 => match s0 with | .string b => b.size | _ => 0)
  case atStart => exact ⟨k, Nat.le_refl _, by rw [HK.out]⟩
  case round =>
    obtain ⟨j, hj, rfl⟩ := hrel
    obtain ⟨t, ht⟩ : ∃ t, R ++ List.replicate j 48 = t := ⟨_, rfl⟩
    have htl : t.length = R.length + j := by rw [← ht]; simp
    have hR0 := HR0.out
    have hln := HLN.out
    have htI : (t.length : Int) ≤ 100000 := by omega
    obtain ⟨n, hn⟩ : ∃ n, t.length - 1 = n := ⟨_, rfl⟩
    have hix : n < t.length := by omega
    have hb := bget t n hix
    have kk : IntKind.i64.wrap ((t.length : Int) - 1) = (n : Int) := by rw [IntWalk.i64_in _ (by omega)]; omega
    have hlast : t.getLast? = t[n]? := by rw [List.getLast?_eq_getElem?, hn]
    have htn : t.length = n + 1 := by omega
    have HTN := Lib.hid htn
    cases j with
    | zero =>
      have hne : bt t n ≠ 48 := by
        intro h
        have h2 := (bt_eq hix 48).1 h
        apply HLD.out.2.2.2
        rw [← h2, ← hlast, ← ht]
        simp
      have htR : t = R := by rw [← ht]; simp
      have t1 : ((bt t n : Int) == 48) = false := by rw [beq_eq_false_iff_ne]; omega
      have t1' : (bt t n == 48) = false := by rw [beq_eq_false_iff_ne]; exact hne
      have HT := Lib.hid htR
      rw [ht]
      clear ht htl hne htR hj hln hn htn hlast hR0
      generalize bt t n = x at *
      go_wp2_with fail
      go_ret2
      exact ⟨by rw [HT.out] <;> rfl, rfl⟩
    | succ j =>
      have he : bt t n = 48 := by
        apply (bt_eq hix 48).2
        rw [← hlast, ← ht, List.replicate_succ', ← List.append_assoc]
        simp
      rw [he] at hb
      have hcut := cut_take t n
      have htk : t.take n = R ++ List.replicate j 48 := by
        rw [← hn, htl, ← ht, show R.length + (j + 1) - 1 = R.length + j by omega, List.replicate_succ', ← List.append_assoc, List.take_append_of_le_length (by simp)]
        exact List.take_of_length_le (by simp)
      have HT := Lib.hid htk
      have HJ := Lib.hid hj
      have hnI : (n : Int) ≤ (t.length : Int) := by omega
      rw [ht]
      clear ht he htk hj hln hn htn htl hlast hR0
      go_wp2_with fail
      go_round
      case rel => exact ⟨j, by have := HJ.out; omega, by rw [HT.out]⟩
      case measure =>
        have := HTN.out
        show (t.take n).length < t.length
        rw [List.length_take]
        omega
end Go.Proofs.YtnajondbdeclmaaGreatDoor
