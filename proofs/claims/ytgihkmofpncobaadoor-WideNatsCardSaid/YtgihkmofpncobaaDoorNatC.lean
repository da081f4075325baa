/- Natural numbers as rows of words: the contracts of made, Len, bounded, word, Of. Natural numbers as rows of words: the contracts of bounded, word, Of, times. The contract of wide.times. -/
import Derived.Test.YtgihkmofpncobaaDoorDiv
import Derived.Test.YtgihkmofpncobaaDoorFig
import Derived.Test.YtgihkmofpncobaaDoorTyped
import Derived.Test.YtgihkmofpncobaaDoorCopy
namespace Go.Proofs.YtgihkmofpncobaaDoor
open Go.RowKit
set_option linter.unusedSimpArgs false
set_option linter.unusedVariables false

theorem ei_u64 : EI Tryd.prog 24 35 (.int .u64 0) 8 := ⟨Tryd.underlying24, info_parts (by kernel_rfl), rfl, rfl⟩
/-- A word. -/
def okW : Value → Prop := fun u => ∃ m : Nat, u = wv m ∧ m < W64
theorem okW0 : okW (.int .u64 0) := ⟨0, rfl, by unfold W64; omega⟩

/-- A value is the number x, by its words. -/
def NatL (w : World) (A : Option Addr) (n c x : Nat) : Prop := ∃ l, IsF W64 x l ∧ l.length = n ∧ RT w 35 A (l.map wv) ∧ n ≤ c
def NatW (w : World) (v : Value) (x : Nat) : Prop := ∃ A n c, v = .agg #[.slice A n c] ∧ NatL w A n c x
theorem NatL.below {w w' : World} {A : Option Addr} {n c x : Nat} (h : NatL w A n c x) (hb : Below w.heap.size w w') : NatL w' A n c x := by
  obtain ⟨l, h1, h2, h3, h4⟩ := h
  exact ⟨l, h1, h2, h3.below hb, h4⟩
theorem NatW.below {w w' : World} {v : Value} {x : Nat} (h : NatW w v x) (hb : Below w.heap.size w w') : NatW w' v x := by
  obtain ⟨A, n, c, h1, h2⟩ := h
  exact ⟨A, n, c, h1, h2.below hb⟩
theorem NatW.but {w w' : World} {v : Value} {x b : Nat} {t : TypeId} {cs : Array Value} (h : NatW w v x) (hB : Blk w b t cs) (hne : 35 ≠ t) (hb : But w.heap.size b w w') : NatW w' v x := by
  obtain ⟨A, n, c, h1, l, h2, h3, h4, h5⟩ := h
  exact ⟨A, n, c, h1, l, h2, h3, h4.but hB hne hb, h5⟩
theorem NatW.set {w : World} {v : Value} {x b i : Nat} {t : TypeId} {cs : Array Value} (h : NatW w v x) (hB : Blk w b t cs) (hne : 35 ≠ t) (u : Value) : NatW (w.setCell ⟨b, i, none⟩ u) v x :=
  h.but hB hne ((But.refl _ b _).setCell (p := ⟨b, i, none⟩) (.inl rfl) u)
theorem NatW.drewN {w : World} {v : Value} {x : Nat} (h : NatW w v x) (k : Nat) : NatW (w.drewN k) v x := h.below (below_drewN (Below.refl _ _) k)
theorem NatW.nil (w : World) : NatW w (.agg #[.slice none 0 0]) 0 := ⟨none, 0, 0, rfl, [], IsF.nil _, rfl, RT.nil _ _, Nat.le_refl _⟩

def MadeP (A : Option Addr) (c : Nat) (l : List Nat) (w : World) (e : Ending) (w' : World) : Prop :=
  ∃ k, e = .returned (.agg #[.slice A k c]) ∧ k ≤ l.length ∧ IsF W64 (fval W64 l) (l.take k) ∧ Below w.heap.size w w'

set_option maxRecDepth 100000 in
theorem made_any (A : Option Addr) (c : Nat) (l : List Nat) (w : World) (hr : RT w 35 A (l.map wv)) (hf : Figs W64 l) (hc : l.length ≤ c) (hn : l.length ≤ 1000000000000) :
    Calls Tryd.prog 46 #[.slice A l.length c] w (MadeP A c l w) := by
  have HR := Lib.hid (hr.below (below_new w (.cells #[.slice none 0 0] 26)))
  have HF := Lib.hid hf
  clear hr hf
  go_enter Tryd.func46, Tryd.ntmps46
  go_wp2_with fail
  go_loop [3] (fun s => ∃ k : Nat, s = .int .i64 k ∧ k ≤ l.length ∧ ∀ j, k ≤ j → l.getD j 0 = 0) (fun s => (intOf s).toNat)
  case atStart => exact ⟨l.length, rfl, Nat.le_refl _, fun j hj => by simp [List.getD, hj]⟩
  case round =>
    obtain ⟨k, rfl, hk, hz⟩ := hrel
    have HZ := Lib.hid hz
    clear hz
    cases k with
    | zero =>
      have HV := Lib.hid (IsF.of_cut HF.out (Nat.zero_le _) HZ.out (.inl rfl))
      go_wp2_with fail
      exact bodyPost_ret (v := .agg #[.slice A 0 c]) (by simp [results, Tryd.results46, go_sem]) rfl ⟨0, rfl, Nat.zero_le _, HV.out, by go_grown⟩
    | succ j =>
      obtain ⟨g, o, rfl, hl0⟩ := HR.out.cell j (by simp; omega)
      rw [List.getElem_map] at hl0
      have hlx : l.getD j 0 = l[j] := by simp [List.getD, show j < l.length by omega]
      have HLX := Lib.hid hlx
      clear hlx
      generalize l[j] = x at *
      by_cases h0 : x = 0
      · subst h0
        have HM : Hid (∀ i, j ≤ i → l.getD i 0 = 0) := fun i hi => by
          rcases Nat.lt_or_ge j i with h | h
          · exact HZ.out i h
          · obtain rfl : i = j := by omega
            exact HLX.out
        go_wp2_with fail
        go_round
        case rel => exact ⟨j, by go_num, by omega, HM.out⟩
        case measure => simp [intOf]
      · have t1 : ((x : Int) == 0) = false := by simp; omega
        have HV := Lib.hid (IsF.of_cut HF.out hk HZ.out (.inr (by simp only [Nat.add_sub_cancel]; rw [HLX.out]; exact h0)))
        clear h0
        go_wp2_with fail
        exact bodyPost_ret (v := .agg #[.slice (some ⟨g, o, none⟩) (j + 1) c]) (by simp [results, Tryd.results46, go_sem]) rfl ⟨j + 1, rfl, hk, HV.out, by go_grown⟩

/-- What made has made is a number. -/
theorem MadeP.nat {A : Option Addr} {c : Nat} {l : List Nat} {w w' : World} {e : Ending} (hm : MadeP A c l w e w') (hr : RT w 35 A (l.map wv)) (hc : l.length ≤ c) :
    ∃ v, e = .returned v ∧ NatW w' v (fval W64 l) ∧ Below w.heap.size w w' := by
  obtain ⟨k, rfl, hk, hf, hb⟩ := hm
  refine ⟨_, rfl, ⟨A, k, c, rfl, l.take k, hf, by simp; omega, ?_, by omega⟩, hb⟩
  have := (hr.below hb).take k
  rwa [← List.map_take] at this

theorem blen_top {x : Nat} {l : List Nat} (h : IsF W64 x l) (j : Nat) (hj : l.length = j + 1) : blen x = 64 * j + blen (l.getD j 0) := by
  have h0 := h.tops j hj.symm
  have h1 := h.lt
  have h2 := h.get j
  rw [hj, Nat.pow_succ] at h1
  have hp : 0 < W64 ^ j := Nat.pow_pos (by unfold W64; omega)
  have e : x / W64 ^ j < W64 := by rw [Nat.div_lt_iff_lt_mul hp, Nat.mul_comm]; exact h1
  rw [Nat.mod_eq_of_lt e] at h2
  have hpow : W64 ^ j = 2 ^ (64 * j) := by rw [W64_pow, ← Nat.pow_mul]
  rw [hpow] at h2
  have h3 := blen_div x (64 * j)
  rw [← h2] at h3
  have h4 := blen_pos h0
  omega

set_option maxRecDepth 100000 in
theorem len_nat (v : Value) (x : Nat) (w : World) (hv : NatW w v x) (hx : blen x ≤ 1000000) :
    Calls Tryd.prog 38 #[v] w fun e w' => e = .returned (.int .i64 (blen x : Nat)) ∧ Below w.heap.size w w' := by
  obtain ⟨A, n, c, rfl, l, hf, rfl, hr, hc⟩ := hv
  have HR := Lib.hid (hr.below (below_new w (.cells #[.slice A l.length c] 26)))
  have HF := Lib.hid hf
  clear hr hf
  by_cases hn : l.length = 0
  · obtain rfl := List.eq_nil_of_length_eq_zero hn
    have hx0 : x = 0 := by rw [← HF.out.val]; rfl
    subst hx0
    clear hn
    go_enter Tryd.func38, Tryd.ntmps38
    go_wp2_with fail
    go_ret
    exact ⟨rfl, by go_grown⟩
  · obtain ⟨j, hn⟩ : ∃ j, l.length = j + 1 := ⟨l.length - 1, by omega⟩
    have hb : blen x = 64 * j + blen (l.getD j 0) := blen_top HF.out j hn
    rw [hb] at hx ⊢
    obtain ⟨g, o, rfl, hl0⟩ := HR.out.cell j (by simp; omega)
    rw [List.getElem_map] at hl0
    have hlx : l.getD j 0 = l[j] := by simp [List.getD, show j < l.length by omega]
    have hxw : l[j] < W64 := HF.out.figs _ (List.getElem_mem _)
    rw [hlx]
    clear hlx hb
    generalize l[j] = y at *
    have HL := Lib.hid (fun W => (len64 y hxw W).mono (R' := fun e w' => e = .returned (.int .i64 (blen y : Nat)) ∧ w' = W) (fun _ _ h => ⟨h.1, h.2.symm⟩))
    have hy := blen_le64 hxw
    have hj : j ≤ 15625 := by omega
    generalize l.length = n at *
    have t1 : ((n : Int) == 0) = false := by simp; omega
    have hj0 : (0 : Int) ≤ j := by omega
    have hjn : (j : Int) < n := by omega
    have s1 : IntKind.i64.wrap ((n : Int) - 1) = (j : Int) := by rw [show (n : Int) - 1 = j by omega]; exact IntWalk.i64_in _ (by omega)
    have s2 : IntKind.i64.wrap (64 * (j : Int)) = 64 * (j : Int) := IntWalk.i64_in _ (by omega)
    clear HF hxw hn hx
    generalize blen y = b at *
    have s3 : IntKind.i64.wrap (64 * (j : Int) + (b : Int)) = 64 * (j : Int) + (b : Int) := IntWalk.i64_in _ (by omega)
    go_enter Tryd.func38, Tryd.ntmps38
    go_wp2_with fail
    go_quiet ((go_at_call 62; exact Calls.quiet_of_same (HL.out _)))
    go_wp2
    go_ret
    exact ⟨by congr 2, below_drewN (by go_grown) _⟩
end Go.Proofs.YtgihkmofpncobaaDoor

namespace Go.Proofs.YtgihkmofpncobaaDoor
open Go.RowKit
set_option linter.unusedSimpArgs false
set_option linter.unusedVariables false

abbrev nilN : Value := .agg #[.slice none 0 0]
abbrev enoV (n : Int) : Value := .iface 53 (.int .i64 n)
/-- A number, and no error. -/
def NatE (x : Nat) (w : World) (e : Ending) (w' : World) : Prop := ∃ v, e = .returned (.tuple #[v, .nilIface]) ∧ NatW w' v x ∧ Below w.heap.size w w'
/-- No number, and an error's number. -/
def NatF (no : Int) (w : World) (e : Ending) (w' : World) : Prop := e = .returned (.tuple #[nilN, enoV no]) ∧ Below w.heap.size w w'
/-- A number alone. -/
def NatV (x : Nat) (w : World) (e : Ending) (w' : World) : Prop := ∃ v, e = .returned v ∧ NatW w' v x ∧ Below w.heap.size w w'
/-- A number, unless it has too many bits. -/
def NatB (x : Nat) (w : World) (e : Ending) (w' : World) : Prop := if blen x ≤ 8192 then NatE x w e w' else NatF 11 w e w'

set_option maxRecDepth 100000 in
theorem bounded_any (v : Value) (x : Nat) (w : World) (hv : NatW w v x) (hx : blen x ≤ 1000000) :
    Calls Tryd.prog 51 #[v] w (NatB x w) := by
  obtain ⟨A, n, c, rfl, hl⟩ := id hv
  have HV := Lib.hid hv
  clear hv hl
  have HL := Lib.hid (fun W hb => len_nat _ x W (HV.out.below hb) hx)
  by_cases h : blen x ≤ 8192
  · have t1 : decide ((8192 : Int) < (blen x : Nat)) = false := by simp; omega
    have t1' : decide (8192 < blen x) = false := by simp; omega
    have HP : Hid (NatB x w = NatE x w) := by funext e w'; unfold NatB; rw [if_pos h]
    rw [HP.out]
    clear h hx
    generalize blen x = b at *
    go_enter Tryd.func51, Tryd.ntmps51
    go_wp2_with fail
    refine (HL.out _ (by go_grown)).mono ?_
    rintro e w1 ⟨rfl, hb1⟩
    obtain ⟨kc, kf⟩ := bcell hb1
    have hz := hb1.size
    simp at hz
    have HBK : Hid (Blk w1 (w.heap.size + 1) 26 #[.slice none 0 0]) := (by have := Blk.new (w.alloc (.cells #[.slice A n c] 26)) 26 #[.slice none 0 0]; simp only [World.size_alloc] at this; exact this.below hb1 (by simp))
    have HB := Lib.hid hb1
    clear hb1
    have hp := HBK.out.put (i := 0) (by simp)
    go_wp2_with fail
    have hfin : ∀ u, Below w.heap.size w (w1.setCell ⟨w.heap.size + 1, 0, none⟩ u) := fun u => (keepb (show Below w.heap.size w _ by go_grown) HB.out).setCell (by simp) _
    exact bodyPost_ret (v := .tuple #[.agg #[.slice A n c], .nilIface]) (by simp [results, Tryd.results51, go_sem, hp]) rfl ⟨_, rfl, HV.out.below (hfin _), hfin _⟩
  · have t1 : decide ((8192 : Int) < (blen x : Nat)) = true := by simp; omega
    have t1' : decide (8192 < blen x) = true := by simp; omega
    have HP : Hid (NatB x w = NatF 11 w) := by funext e w'; unfold NatB; rw [if_neg h]
    rw [HP.out]
    clear h hx
    generalize blen x = b at *
    go_enter Tryd.func51, Tryd.ntmps51
    go_wp2_with fail
    refine (HL.out _ (by go_grown)).mono ?_
    rintro e w1 ⟨rfl, hb1⟩
    obtain ⟨kc, kf⟩ := bcell hb1
    have hz := hb1.size
    simp at hz
    have HBK : Hid (Blk w1 (w.heap.size + 1) 26 #[.slice none 0 0]) := (by have := Blk.new (w.alloc (.cells #[.slice A n c] 26)) 26 #[.slice none 0 0]; simp only [World.size_alloc] at this; exact this.below hb1 (by simp))
    have HB := Lib.hid hb1
    clear hb1
    have hp := HBK.out.put (i := 0) (by simp)
    go_wp2_with fail
    have hfin : ∀ u, Below w.heap.size w (w1.setCell ⟨w.heap.size + 1, 0, none⟩ u) := fun u => (keepb (show Below w.heap.size w _ by go_grown) HB.out).setCell (by simp) _
    exact bodyPost_ret (v := .tuple #[.agg #[.slice none 0 0], enoV 11]) (by simp [results, Tryd.results51, go_sem, hp]) rfl ⟨rfl, hfin _⟩

set_option maxRecDepth 100000 in
theorem word_nat (v : Value) (x i : Nat) (w : World) (hv : NatW w v x) (hi : i ≤ 1000000000000) :
    Calls Tryd.prog 48 #[v, .int .i64 (i : Int)] w fun e w' => e = .returned (wv (x / W64 ^ i % W64)) ∧ Below w.heap.size w w' := by
  obtain ⟨A, n, c, rfl, l, hf, hn, hr, hc⟩ := hv
  have HR := Lib.hid (hr.below (below_new w (.cells #[.slice A n c] 26)))
  rw [← hf.get i]
  clear hr hf
  by_cases h : i < n
  · obtain ⟨g, o, rfl, hl0⟩ := HR.out.cell i (by simp; omega)
    rw [List.getElem_map] at hl0
    have hlx : l.getD i 0 = l[i] := by simp [List.getD, show i < l.length by omega]
    rw [hlx]
    clear hlx
    generalize l[i] = y at *
    have t1 : decide (i < n) = true := by simp; omega
    have t1' : decide ((i : Int) < n) = true := by simp; omega
    have q : (i : Int) < n := by omega
    go_enter Tryd.func48, Tryd.ntmps48
    go_wp2_with fail
    go_ret
    exact ⟨rfl, by go_grown⟩
  · have hlx : l.getD i 0 = 0 := by simp [List.getD, show l.length ≤ i by omega]
    rw [hlx]
    have t1 : decide (i < n) = false := by simp; omega
    have t1' : decide ((i : Int) < n) = false := by simp; omega
    go_enter Tryd.func48, Tryd.ntmps48
    go_wp2_with fail
    go_ret
    exact ⟨rfl, by go_grown⟩

theorem fval_one (q x : Nat) : fval q [x] = x := by simp [fval]
set_option maxRecDepth 100000 in
theorem of_nat (x : Nat) (w : World) (hx : x < W64) :
    Calls Tryd.prog 14 #[wv x] w (NatV x w) := by
  have HM := Lib.hid (fun W A hr => made_any A 1 [x] W hr ((Figs.nil _).cons hx) (Nat.le_refl _) (by simp))
  have HX := Lib.hid hx
  clear hx
  go_enter Tryd.func14, Tryd.ntmps14
  go_wp2_with fail
  have hr := RT.fresh (w.alloc (.cells #[.slice none 0 0] 26)) 35 [wv x]
  simp only [World.size_alloc] at hr
  refine (HM.out _ _ hr).mono ?_
  rintro e w1 hm
  obtain ⟨v, rfl, hv, hb1⟩ := hm.nat hr (by simp)
  rw [fval_one] at hv
  obtain ⟨A, n, c, rfl, hl⟩ := id hv
  obtain ⟨kc, kf⟩ := bcell hb1
  have hz := hb1.size
  simp at hz
  have HBK : Hid (Blk w1 w.heap.size 26 #[.slice none 0 0]) := ((Blk.new w _ _).alloc _).below hb1 (by simp; omega)
  have HB := Lib.hid hb1
  have HV := Lib.hid hv
  clear hb1 hv hm hr hl
  have hp := HBK.out.put (i := 0) (by simp)
  go_wp2_with fail
  have hfin : ∀ u, Below w.heap.size w (w1.setCell ⟨w.heap.size, 0, none⟩ u) := fun u => (keepb (show Below w.heap.size w _ by go_grown) HB.out).setCell (by simp) _
  exact bodyPost_ret (v := .agg #[.slice A n c]) (by simp [results, Tryd.results14, go_sem, hp]) rfl ⟨_, rfl, HV.out.set HBK.out (by decide) _, hfin _⟩
end Go.Proofs.YtgihkmofpncobaaDoor

namespace Go.Proofs.YtgihkmofpncobaaDoor
open Go.RowKit
set_option linter.unusedSimpArgs false
set_option linter.unusedVariables false

/-- A row of words of the call's own: the number of its figures. -/
def RowP (n x : Nat) (w : World) (e : Ending) (w' : World) : Prop :=
  ∃ A c m, e = .returned (.slice A n c) ∧ m.length = n ∧ Figs W64 m ∧ fval W64 m = x ∧ RT w' 35 A (m.map wv) ∧ n ≤ c ∧ Below w.heap.size w w'

theorem times_step {x d k hi lo lo' c : Nat} (h1 : x * d = W64 * hi + lo) (h2 : lo' + W64 * c = lo + k + 0) {i : Nat} {acc l : List Nat} {more : Nat} (hl : acc.length = i) (hi' : i < l.length) (hx : l.getD i 0 = x)
    (h : fval W64 acc + W64 ^ i * k = fval W64 (l.take i) * d + more) : fval W64 (acc ++ [lo']) + W64 ^ (i + 1) * (hi + c) = fval W64 (l.take (i + 1)) * d + more := by
  have ht : l.take (i + 1) = l.take i ++ [x] := by
    rw [List.take_succ_eq_append_getElem hi']
    congr 2
    rw [← hx]; simp [List.getD, hi']
  rw [ht, fval_snoc, fval_snoc, hl, List.length_take, Nat.min_eq_left (by omega), Nat.add_mul, Nat.mul_assoc, h1, Nat.pow_succ]
  have e1 : W64 ^ i * W64 * (hi + c) = W64 ^ i * (W64 * hi) + W64 ^ i * (W64 * c) := by rw [Nat.mul_assoc, Nat.mul_add, Nat.mul_add]
  have e2 : W64 ^ i * lo' + W64 ^ i * (W64 * c) = W64 ^ i * lo + W64 ^ i * k := by rw [← Nat.mul_add, ← Nat.mul_add, h2, Nat.add_zero]
  have e3 : W64 ^ i * (W64 * hi + lo) = W64 ^ i * (W64 * hi) + W64 ^ i * lo := Nat.mul_add _ _ _
  rw [e1, e3]
  omega

set_option maxRecDepth 100000 in
set_option maxHeartbeats 2000000 in
theorem times_any (A : Option Addr) (c : Nat) (l : List Nat) (d more : Nat) (w : World) (hr : RT w 35 A (l.map wv)) (hf : Figs W64 l) (hd : d < W64) (hm : more < W64) (hc : l.length ≤ c) (hn : l.length ≤ 1000000) :
    Calls Tryd.prog 50 #[.slice A l.length c, wv d, wv more] w (RowP (l.length + 1) (fval W64 l * d + more) w) := by
  have HR := Lib.hid hr
  have HF := Lib.hid hf
  have HD := Lib.hid hd
  have HM := Lib.hid hm
  have hmk := fun W => run_mk ei_u64 .i64 .i64 0 (l.length + 1) (by omega) (by omega) (by omega) W
  have e2 : ((l.length + 1 : Nat) : Int) = (l.length : Int) + 1 := by omega
  have e0 : ((0 : Nat) : Int) = 0 := rfl
  rw [e2, e0] at hmk
  have hli : (l.length : Int) ≤ 1000000 := by omega
  clear hr hf hd hm e2 e0
  go_enter Tryd.func50, Tryd.ntmps50
  go_wp2_with fail
  have HO := Lib.hid (made_own (e := 35) (z := .int .u64 0) (ok := okW) w w.heap.size (Nat.le_refl _) 0 (l.length + 1) (by omega) (by omega) okW0)
  go_loopw [7, 2, 19] (fun u m i wr => ∃ (k j : Nat) (acc : List Nat), j ≤ l.length ∧ i = .int .i64 j ∧ m = wv k ∧ k < W64 ∧ acc.length = j ∧ Figs W64 acc ∧ fval W64 acc + W64 ^ j * k = fval W64 (l.take j) * d + more ∧
      OwnR wr w.heap.size 35 okW u j (acc.map wv) ∧ Below w.heap.size w wr) (fun _ _ i _ => l.length - (intOf i).toNat)
  case atStart => exact ⟨more, 0, [], by omega, rfl, rfl, HM.out, rfl, Figs.nil _, by simp [fval], HO.out, below_new _ _⟩
  case round =>
    obtain ⟨k, j, acc, hj, rfl, rfl, hk, ha, hfa, hv, hu, hbel⟩ := hrel
    have HK := Lib.hid hk
    have HA := Lib.hid ha
    have HFA := Lib.hid hfa
    have HV := Lib.hid hv
    have HU := Lib.hid hu
    have HBE := Lib.hid hbel
    have hsz := hbel.size
    obtain ⟨A1, c1, hu', hc1⟩ := hu.shape
    subst hu'
    clear hk ha hfa hv hu hbel
    by_cases hlt : j < l.length
    · obtain ⟨g, o, rfl, hl0⟩ := (HR.out.below HBE.out).cell j (by simpa using hlt)
      rw [List.getElem_map] at hl0
      have hlx : l.getD j 0 = l[j] := by simp [List.getD, hlt]
      have hxw : l[j] < W64 := HF.out _ (List.getElem_mem _)
      have HLX := Lib.hid hlx
      have HM64 := Lib.hid (fun W => mul64 l[j] d hxw HD.out W)
      have HH := Lib.hid (mul_lt hxw HD.out)
      have HE := Lib.hid (Nat.div_add_mod (l[j] * d) W64).symm
      clear hlx hxw
      generalize l[j] = x at *
      have hhi : x * d / W64 < W64 - 1 := HH.out
      have hlo : x * d % W64 < W64 := Nat.mod_lt _ (by unfold W64; omega)
      have HLO := Lib.hid hlo
      have HHI := Lib.hid hhi
      clear hlo hhi
      generalize x * d / W64 = hi at *
      generalize x * d % W64 = lo at *
      have ca := fun W => call_add0 lo k W
      have HAE := Lib.hid (add_eq lo k 0)
      have HAL := Lib.hid (addLo_lt lo k 0)
      have hah := addHi_le HLO.out HK.out (show 0 ≤ 1 by omega)
      generalize addLo lo k 0 = lo' at *
      generalize addHi lo k 0 = cc at *
      have hs : IntKind.u64.wrap ((hi : Int) + (cc : Int)) = ((hi + cc : Nat) : Int) := by rw [← Int.natCast_add]; exact wrapN _ (by have := HHI.out; unfold W64 at *; omega)
      have HKN := Lib.hid (show hi + cc < W64 by have := HHI.out; unfold W64 at *; omega)
      have HST := Lib.hid (times_step HE.out HAE.out HA.out hlt HLX.out HV.out)
      clear hah
      have q : (j : Int) < l.length := by omega
      go_wp2_with fail
      refine (HM64.out _).mono ?_
      rintro e w' ⟨rfl, rfl⟩
      go_wp2_with (at_builtin; refine wpList_app ei_u64 okW0 rfl (.tmp 35) (.tmp 37) rfl w.heap.size _ _ _ rfl (HU.out.below (below_new _ _)) _ _ _ _ _ rfl (RV.fresh wr 35 [wv lo']) (fun u hu => by simp at hu; subst hu; rfl) (show j + 1 ≤ _ by omega) (show (j + 1) * 8 ≤ _ by omega) (by simp; omega) ?_; intro A3 c3 w3 hu3 hg3 ha3)
      go_roundw
      case rel => exact ⟨hi + cc, j + 1, acc ++ [lo'], by omega, by go_num, by go_num, HKN.out, by simp [HA.out], HFA.out.snoc HAL.out, HST.out, by rw [List.map_append]; exact hu3, (HBE.out.alloc (by omega) _).grown hg3 (by simp; omega) (fun k hk => (HU.out.lt k hk).1)⟩
      case measure => simp [intOf]; omega
    · obtain rfl : j = l.length := by omega
      have HVV := Lib.hid (show fval W64 (acc ++ [k]) = fval W64 l * d + more by rw [fval_snoc, HA.out, HV.out, List.take_length])
      clear hlt
      go_wp2_with (at_builtin; refine wpList_app ei_u64 okW0 rfl (.tmp 43) (.tmp 45) rfl w.heap.size _ _ _ rfl (HU.out.below (below_new _ _)) _ _ _ _ _ rfl (RV.fresh wr 35 [wv k]) (fun u hu => by simp at hu; subst hu; rfl) (show l.length + 1 ≤ _ by omega) (show (l.length + 1) * 8 ≤ _ by omega) (by simp; omega) ?_; intro A3 c3 w3 hu3 hg3 ha3)
      go_ret
      obtain ⟨_, _, he3, hc3⟩ := hu3.shape
      injection he3 with _ _ he3
      subst he3
      exact ⟨A3, _, acc ++ [k], rfl, by simp [HA.out], HFA.out.snoc HK.out, HVV.out, by rw [List.map_append]; exact RT.of_own hu3, hc3, (HBE.out.alloc (by omega) _).grown hg3 (by simp; omega) (fun k hk => (HU.out.lt k hk).1)⟩
/-- What bounded answers, by its parts. -/
def NatQ (x : Nat) (w : World) (A : Option Addr) (n c : Nat) (er : Value) : Prop := if blen x ≤ 8192 then er = .nilIface ∧ NatL w A n c x else er = enoV 11 ∧ A = none ∧ n = 0 ∧ c = 0
theorem NatB.open {x : Nat} {w w' : World} {e : Ending} (h : NatB x w e w') : ∃ A n c er, e = .returned (.tuple #[.agg #[.slice A n c], er]) ∧ NatQ x w' A n c er ∧ Below w.heap.size w w' := by
  unfold NatB at h
  by_cases hb : blen x ≤ 8192
  · rw [if_pos hb] at h
    obtain ⟨v, rfl, ⟨A, n, c, rfl, hl⟩, hbel⟩ := h
    exact ⟨A, n, c, _, rfl, by unfold NatQ; rw [if_pos hb]; exact ⟨rfl, hl⟩, hbel⟩
  · rw [if_neg hb] at h
    obtain ⟨rfl, hbel⟩ := h
    exact ⟨none, 0, 0, _, rfl, by unfold NatQ; rw [if_neg hb]; exact ⟨rfl, rfl, rfl, rfl⟩, hbel⟩
theorem NatQ.mk {x : Nat} {w w' : World} {A : Option Addr} {n c : Nat} {er : Value} (h : NatQ x w' A n c er) (hb : Below w.heap.size w w') : NatB x w (.returned (.tuple #[.agg #[.slice A n c], er])) w' := by
  unfold NatB
  unfold NatQ at h
  by_cases hx : blen x ≤ 8192
  · rw [if_pos hx] at h ⊢
    obtain ⟨rfl, hl⟩ := h
    exact ⟨_, rfl, ⟨A, n, c, rfl, hl⟩, hb⟩
  · rw [if_neg hx] at h ⊢
    obtain ⟨rfl, rfl, rfl, rfl⟩ := h
    exact ⟨rfl, hb⟩
theorem NatQ.set {x : Nat} {w : World} {A : Option Addr} {n c b i : Nat} {er : Value} {t : TypeId} {cs : Array Value} (h : NatQ x w A n c er) (hB : Blk w b t cs) (hne : 35 ≠ t) (u : Value) : NatQ x (w.setCell ⟨b, i, none⟩ u) A n c er := by
  unfold NatQ at h ⊢
  by_cases hx : blen x ≤ 8192
  · rw [if_pos hx] at h ⊢
    obtain ⟨l, h2, h3, h4, h5⟩ := h.2
    exact ⟨h.1, l, h2, h3, h4.set hB hne u, h5⟩
  · rw [if_neg hx] at h ⊢
    exact h
theorem NatV.open {x : Nat} {w w' : World} {e : Ending} (h : NatV x w e w') : ∃ A n c, e = .returned (.agg #[.slice A n c]) ∧ NatL w' A n c x ∧ Below w.heap.size w w' := by
  obtain ⟨v, rfl, ⟨A, n, c, rfl, hl⟩, hb⟩ := h
  exact ⟨A, n, c, rfl, hl, hb⟩
/-- made of a row of words. -/
theorem made_nat (A : Option Addr) (n c x : Nat) (m : List Nat) (w : World) (hl : m.length = n) (hf : Figs W64 m) (hv : fval W64 m = x) (hr : RT w 35 A (m.map wv)) (hc : n ≤ c) (hn : n ≤ 1000000000000) :
    Calls Tryd.prog 46 #[.slice A n c] w (NatV x w) := by
  subst hl hv
  exact (made_any A c m w hr hf hc hn).mono fun e w' h => h.nat hr hc
theorem blen_words {n x : Nat} (h : x < W64 ^ n) : blen x ≤ 64 * n := by rw [blen_le, Nat.pow_mul]; exact h
theorem natl_len {w : World} {A : Option Addr} {n c x : Nat} (h : NatL w A n c x) : 64 * n ≤ blen x + 63 := by
  obtain ⟨l, h1, rfl, _, _⟩ := h
  by_cases h0 : l.length = 0
  · omega
  · obtain ⟨j, hj⟩ : ∃ j, l.length = j + 1 := ⟨l.length - 1, by omega⟩
    have := blen_top h1 j hj
    have := blen_pos (h1.tops j hj.symm)
    omega

set_option maxRecDepth 100000 in
theorem times_nat (v : Value) (x d : Nat) (w : World) (hv : NatW w v x) (hd : d < W64) (hx : blen x ≤ 900000) :
    Calls Tryd.prog 30 #[v, wv d] w (NatB (x * d) w) := by
  obtain ⟨A, n, c, rfl, hl⟩ := hv
  have hn0 := natl_len hl
  have hn : n ≤ 20000 := by omega
  obtain ⟨l, hf, rfl, hr, hc⟩ := hl
  have HT := Lib.hid (fun W hb => times_any A c l d 0 W (hr.below hb) hf.figs hd (by unfold W64; omega) hc (by omega))
  rw [hf.val, Nat.add_zero] at HT
  have hbx : blen (x * d) ≤ 1000000 := by
    have h1 := blen_words hf.lt
    have h2 : blen (x * d) ≤ 64 * (l.length + 1) := blen_words (by
      rw [Nat.pow_succ]
      exact Nat.mul_lt_mul'' hf.lt hd)
    omega
  have HBX := Lib.hid hbx
  clear hr hf hbx hx hd hn0
  generalize x * d = y at *
  generalize l.length = n at *
  go_enter Tryd.func30, Tryd.ntmps30
  go_wp2_with fail
  refine (HT.out _ (by go_grown)).mono ?_
  rintro e w1 ⟨A1, c1, m, rfl, hm, hfm, hvm, hrm, hcm, hb1⟩
  have HB1 := Lib.hid (keepb (show Below w.heap.size w _ by go_grown) hb1)
  have HBK1 : Hid (Blk w1 (w.heap.size + 1) 26 #[.slice none 0 0]) := (by have := Blk.new (w.alloc (.cells #[.slice A n c] 26)) 26 #[.slice none 0 0]; simp only [World.size_alloc] at this; exact this.below hb1 (by simp))
  have HM := Lib.hid (made_nat A1 (n + 1) c1 y m w1 hm hfm hvm hrm hcm (by omega))
  clear hm hfm hvm hrm hb1
  go_wp2_with fail
  refine HM.out.mono ?_
  rintro e w2 ⟨v2, rfl, hv2, hb2⟩
  have HB2 := Lib.hid (keepb HB1.out hb2)
  have HBK2 : Hid (Blk w2 (w.heap.size + 1) 26 #[.slice none 0 0]) := HBK1.out.below hb2 HBK1.out.lt
  have HN := Lib.hid (bounded_any v2 y w2 hv2 HBX.out)
  obtain ⟨A2, n2, c2, rfl, _⟩ := hv2
  clear hb2
  go_wp2_with fail
  refine HN.out.mono ?_
  rintro e w3 h3
  obtain ⟨A3, n3, c3, er, rfl, hq, hb3⟩ := h3.open
  have HB3 := Lib.hid (keepb HB2.out hb3)
  have HBK3 : Hid (Blk w3 (w.heap.size + 1) 26 #[.slice none 0 0]) := HBK2.out.below hb3 HBK2.out.lt
  have HQ := Lib.hid hq
  have hc3 := HBK3.out.cell 0
  have hf3 := HBK3.out.frozen 0
  simp at hc3
  have hp := HBK3.out.put (i := 0) (by simp)
  clear h3 hq hb3
  go_wp2_with fail
  exact bodyPost_ret (v := .tuple #[.agg #[.slice A3 n3 c3], er]) (by simp [results, Tryd.results30, go_sem, hp]) rfl ((HQ.out.set HBK3.out (by decide) _).mk (HB3.out.setCell (by simp) _))
end Go.Proofs.YtgihkmofpncobaaDoor
