/- Natural numbers as rows of words: the contracts of made, Len, bounded, word, Of. -/
import Derived.Test.YtjggmdlecdbeeaaGreatDoorDiv
import Derived.Test.YtjggmdlecdbeeaaGreatDoorFig
import Derived.Test.YtjggmdlecdbeeaaGreatDoorTyped
namespace Go.Proofs.YtjggmdlecdbeeaaGreatDoor
open Go.RowKit
set_option linter.unusedSimpArgs false
set_option linter.unusedVariables false

theorem ei_u64 : EI Tryz.prog 124 28 (.int .u64 0) 8 := ⟨Tryz.underlying124, info_parts (by kernel_rfl), rfl, rfl⟩
/-- A word. -/
def okW : Value → Prop := fun u => ∃ m : Nat, u = wv m ∧ m < W64
theorem okW0 : okW (.int .u64 0) := ⟨0, rfl, by unfold W64; omega⟩

/-- A value is the number x, by its words. -/
def NatL (w : World) (A : Option Addr) (n c x : Nat) : Prop := ∃ l, IsF W64 x l ∧ l.length = n ∧ RT w 28 A (l.map wv) ∧ n ≤ c
def NatW (w : World) (v : Value) (x : Nat) : Prop := ∃ A n c, v = .agg #[.slice A n c] ∧ NatL w A n c x
theorem NatL.below {w w' : World} {A : Option Addr} {n c x : Nat} (h : NatL w A n c x) (hb : Below w.heap.size w w') : NatL w' A n c x := by
  obtain ⟨l, h1, h2, h3, h4⟩ := h
  exact ⟨l, h1, h2, h3.below hb, h4⟩
theorem NatW.below {w w' : World} {v : Value} {x : Nat} (h : NatW w v x) (hb : Below w.heap.size w w') : NatW w' v x := by
  obtain ⟨A, n, c, h1, h2⟩ := h
  exact ⟨A, n, c, h1, h2.below hb⟩
theorem NatW.but {w w' : World} {v : Value} {x b : Nat} {t : TypeId} {cs : Array Value} (h : NatW w v x) (hB : Blk w b t cs) (hne : 28 ≠ t) (hb : But w.heap.size b w w') : NatW w' v x := by
  obtain ⟨A, n, c, h1, l, h2, h3, h4, h5⟩ := h
  exact ⟨A, n, c, h1, l, h2, h3, h4.but hB hne hb, h5⟩
theorem NatW.set {w : World} {v : Value} {x b i : Nat} {t : TypeId} {cs : Array Value} (h : NatW w v x) (hB : Blk w b t cs) (hne : 28 ≠ t) (u : Value) : NatW (w.setCell ⟨b, i, none⟩ u) v x :=
  h.but hB hne ((But.refl _ b _).setCell (p := ⟨b, i, none⟩) (.inl rfl) u)
theorem NatW.drewN {w : World} {v : Value} {x : Nat} (h : NatW w v x) (k : Nat) : NatW (w.drewN k) v x := h.below (below_drewN (Below.refl _ _) k)
theorem NatW.nil (w : World) : NatW w (.agg #[.slice none 0 0]) 0 := ⟨none, 0, 0, rfl, [], IsF.nil _, rfl, RT.nil _ _, Nat.le_refl _⟩

def MadeP (A : Option Addr) (c : Nat) (l : List Nat) (w : World) (e : Ending) (w' : World) : Prop :=
  ∃ k, e = .returned (.agg #[.slice A k c]) ∧ k ≤ l.length ∧ IsF W64 (fval W64 l) (l.take k) ∧ Below w.heap.size w w'

set_option maxRecDepth 100000 in
theorem made_any (A : Option Addr) (c : Nat) (l : List Nat) (w : World) (hr : RT w 28 A (l.map wv)) (hf : Figs W64 l) (hc : l.length ≤ c) (hn : l.length ≤ 1000000000000) :
    Calls Tryz.prog 97 #[.slice A l.length c] w (MadeP A c l w) := by
  have HR := Lib.hid (hr.below (below_new w (.cells #[.slice none 0 0] 126)))
  have HF := Lib.hid hf
  clear hr hf
  go_enter Tryz.func97, Tryz.ntmps97
  go_wp2_with fail
  go_loop [3] (fun s => ∃ k : Nat, s = .int .i64 k ∧ k ≤ l.length ∧ ∀ j, k ≤ j → l.getD j 0 = 0) (fun s => (intOf s).toNat)
  case atStart => exact ⟨l.length, rfl, Nat.le_refl _, fun j hj => by simp [List.getD, hj]⟩
  case round =>
    obtain ⟨k, rfl, hk, hz⟩ := hrel
    have HZ := Lib.hid hz
    clear hz
    cases k with
    | zero =>
      have HV := Lib.hid (IsF.of_cut HF.out (Nat.zero_le _) HZ.out (.inl rfl))
      go_wp2_with fail
      exact bodyPost_ret (v := .agg #[.slice A 0 c]) (by simp [results, Tryz.results97, go_sem]) rfl ⟨0, rfl, Nat.zero_le _, HV.out, by go_grown⟩
    | succ j =>
      obtain ⟨g, o, rfl, hl0⟩ := HR.out.cell j (by simp; omega)
      rw [List.getElem_map] at hl0
      have hlx : l.getD j 0 = l[j] := by simp [List.getD, show j < l.length by omega]
      have HLX := Lib.hid hlx
      clear hlx
      generalize l[j] = x at *
      by_cases h0 : x = 0
      · subst h0
        have HM : Hid (∀ i, j ≤ i → l.getD i 0 = 0) := fun i hi => by
          rcases Nat.lt_or_ge j i with h | h
          · exact HZ.out i h
          · obtain rfl : i = j := by omega
            exact HLX.out
        go_wp2_with fail
        go_round
        case rel => exact ⟨j, by go_num, by omega, HM.out⟩
        case measure => simp [intOf]
      · have t1 : ((x : Int) == 0) = false := by simp; omega
        have HV := Lib.hid (IsF.of_cut HF.out hk HZ.out (.inr (by simp only [Nat.add_sub_cancel]; rw [HLX.out]; exact h0)))
        clear h0
        go_wp2_with fail
        exact bodyPost_ret (v := .agg #[.slice (some ⟨g, o, none⟩) (j + 1) c]) (by simp [results, Tryz.results97, go_sem]) rfl ⟨j + 1, rfl, hk, HV.out, by go_grown⟩

/-- What made has made is a number. -/
theorem MadeP.nat {A : Option Addr} {c : Nat} {l : List Nat} {w w' : World} {e : Ending} (hm : MadeP A c l w e w') (hr : RT w 28 A (l.map wv)) (hc : l.length ≤ c) :
    ∃ v, e = .returned v ∧ NatW w' v (fval W64 l) ∧ Below w.heap.size w w' := by
  obtain ⟨k, rfl, hk, hf, hb⟩ := hm
  refine ⟨_, rfl, ⟨A, k, c, rfl, l.take k, hf, by simp; omega, ?_, by omega⟩, hb⟩
  have := (hr.below hb).take k
  rwa [← List.map_take] at this

theorem blen_top {x : Nat} {l : List Nat} (h : IsF W64 x l) (j : Nat) (hj : l.length = j + 1) : blen x = 64 * j + blen (l.getD j 0) := by
  have h0 := h.tops j hj.symm
  have h1 := h.lt
  have h2 := h.get j
  rw [hj, Nat.pow_succ] at h1
  have hp : 0 < W64 ^ j := Nat.pow_pos (by unfold W64; omega)
  have e : x / W64 ^ j < W64 := by rw [Nat.div_lt_iff_lt_mul hp, Nat.mul_comm]; exact h1
  rw [Nat.mod_eq_of_lt e] at h2
  have hpow : W64 ^ j = 2 ^ (64 * j) := by rw [W64_pow, ← Nat.pow_mul]
  rw [hpow] at h2
  have h3 := blen_div x (64 * j)
  rw [← h2] at h3
  have h4 := blen_pos h0
  omega

set_option maxRecDepth 100000 in
theorem len_nat (v : Value) (x : Nat) (w : World) (hv : NatW w v x) (hx : blen x ≤ 1000000) :
    Calls Tryz.prog 100 #[v] w fun e w' => e = .returned (.int .i64 (blen x : Nat)) ∧ Below w.heap.size w w' := by
  obtain ⟨A, n, c, rfl, l, hf, rfl, hr, hc⟩ := hv
  have HR := Lib.hid (hr.below (below_new w (.cells #[.slice A l.length c] 126)))
  have HF := Lib.hid hf
  clear hr hf
  by_cases hn : l.length = 0
  · obtain rfl := List.eq_nil_of_length_eq_zero hn
    have hx0 : x = 0 := by rw [← HF.out.val]; rfl
    subst hx0
    clear hn
    go_enter Tryz.func100, Tryz.ntmps100
    go_wp2_with fail
    go_ret
    exact ⟨rfl, by go_grown⟩
  · obtain ⟨j, hn⟩ : ∃ j, l.length = j + 1 := ⟨l.length - 1, by omega⟩
    have hb : blen x = 64 * j + blen (l.getD j 0) := blen_top HF.out j hn
    rw [hb] at hx ⊢
    obtain ⟨g, o, rfl, hl0⟩ := HR.out.cell j (by simp; omega)
    rw [List.getElem_map] at hl0
    have hlx : l.getD j 0 = l[j] := by simp [List.getD, show j < l.length by omega]
    have hxw : l[j] < W64 := HF.out.figs _ (List.getElem_mem _)
    rw [hlx]
    clear hlx hb
    generalize l[j] = y at *
    have HL := Lib.hid (fun W => (len64 y hxw W).mono (R' := fun e w' => e = .returned (.int .i64 (blen y : Nat)) ∧ w' = W) (fun _ _ h => ⟨h.1, h.2.symm⟩))
    have hy := blen_le64 hxw
    have hj : j ≤ 15625 := by omega
    generalize l.length = n at *
    have t1 : ((n : Int) == 0) = false := by simp; omega
    have hj0 : (0 : Int) ≤ j := by omega
    have hjn : (j : Int) < n := by omega
    have s1 : IntKind.i64.wrap ((n : Int) - 1) = (j : Int) := by rw [show (n : Int) - 1 = j by omega]; exact IntWalk.i64_in _ (by omega)
    have s2 : IntKind.i64.wrap (64 * (j : Int)) = 64 * (j : Int) := IntWalk.i64_in _ (by omega)
    clear HF hxw hn hx
    generalize blen y = b at *
    have s3 : IntKind.i64.wrap (64 * (j : Int) + (b : Int)) = 64 * (j : Int) + (b : Int) := IntWalk.i64_in _ (by omega)
    go_enter Tryz.func100, Tryz.ntmps100
    go_wp2_with fail
    go_quiet ((go_at_call 113; exact Calls.quiet_of_same (HL.out _)))
    go_wp2
    go_ret
    exact ⟨by congr 2, below_drewN (by go_grown) _⟩
end Go.Proofs.YtjggmdlecdbeeaaGreatDoor
