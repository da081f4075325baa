/- The contract of wide.times. -/
import Derived.Test.YtjggmdlecdbeeaaGreatDoorNatB
namespace Go.Proofs.YtjggmdlecdbeeaaGreatDoor
open Go.RowKit
set_option linter.unusedSimpArgs false
set_option linter.unusedVariables false

/-- A row of words of the call's own: the number of its figures. -/
def RowP (n x : Nat) (w : World) (e : Ending) (w' : World) : Prop :=
  ∃ A c m, e = .returned (.slice A n c) ∧ m.length = n ∧ Figs W64 m ∧ fval W64 m = x ∧ RT w' 28 A (m.map wv) ∧ n ≤ c ∧ Below w.heap.size w w'

theorem times_step {x d k hi lo lo' c : Nat} (h1 : x * d = W64 * hi + lo) (h2 : lo' + W64 * c = lo + k + 0) {i : Nat} {acc l : List Nat} {more : Nat} (hl : acc.length = i) (hi' : i < l.length) (hx : l.getD i 0 = x)
    (h : fval W64 acc + W64 ^ i * k = fval W64 (l.take i) * d + more) : fval W64 (acc ++ [lo']) + W64 ^ (i + 1) * (hi + c) = fval W64 (l.take (i + 1)) * d + more := by
  have ht : l.take (i + 1) = l.take i ++ [x] := by
    rw [List.take_succ_eq_append_getElem hi']
    congr 2
    rw [← hx]; simp [List.getD, hi']
  rw [ht, fval_snoc, fval_snoc, hl, List.length_take, Nat.min_eq_left (by omega), Nat.add_mul, Nat.mul_assoc, h1, Nat.pow_succ]
  have e1 : W64 ^ i * W64 * (hi + c) = W64 ^ i * (W64 * hi) + W64 ^ i * (W64 * c) := by rw [Nat.mul_assoc, Nat.mul_add, Nat.mul_add]
  have e2 : W64 ^ i * lo' + W64 ^ i * (W64 * c) = W64 ^ i * lo + W64 ^ i * k := by rw [← Nat.mul_add, ← Nat.mul_add, h2, Nat.add_zero]
  have e3 : W64 ^ i * (W64 * hi + lo) = W64 ^ i * (W64 * hi) + W64 ^ i * lo := Nat.mul_add _ _ _
  rw [e1, e3]
  omega

set_option maxRecDepth 100000 in
set_option maxHeartbeats 2000000 in
theorem times_any (A : Option Addr) (c : Nat) (l : List Nat) (d more : Nat) (w : World) (hr : RT w 28 A (l.map wv)) (hf : Figs W64 l) (hd : d < W64) (hm : more < W64) (hc : l.length ≤ c) (hn : l.length ≤ 1000000) :
    Calls Tryz.prog 95 #[.slice A l.length c, wv d, wv more] w (RowP (l.length + 1) (fval W64 l * d + more) w) := by
  have HR := Lib.hid hr
  have HF := Lib.hid hf
  have HD := Lib.hid hd
  have HM := Lib.hid hm
  have hmk := fun W => run_mk ei_u64 .i64 .i64 0 (l.length + 1) (by omega) (by omega) (by omega) W
  have e2 : ((l.length + 1 : Nat) : Int) = (l.length : Int) + 1 := by omega
  have e0 : ((0 : Nat) : Int) = 0 := rfl
  rw [e2, e0] at hmk
  have hli : (l.length : Int) ≤ 1000000 := by omega
  clear hr hf hd hm e2 e0
  go_enter Tryz.func95, Tryz.ntmps95
  go_wp2_with fail
  have HO := Lib.hid (made_own (e := 28) (z := .int .u64 0) (ok := okW) w w.heap.size (Nat.le_refl _) 0 (l.length + 1) (by omega) (by omega) okW0)
  go_loopw [7, 2, 19] (fun u m i wr => ∃ (k j : Nat) (acc : List Nat), j ≤ l.length ∧ i = .int .i64 j ∧ m = wv k ∧ k < W64 ∧ acc.length = j ∧ Figs W64 acc ∧ fval W64 acc + W64 ^ j * k = fval W64 (l.take j) * d + more ∧
      OwnR wr w.heap.size 28 okW u j (acc.map wv) ∧ Below w.heap.size w wr) (fun _ _ i _ => l.length - (intOf i).toNat)
  case atStart => exact ⟨more, 0, [], by omega, rfl, rfl, HM.out, rfl, Figs.nil _, by simp [fval], HO.out, below_new _ _⟩
  case round =>
    obtain ⟨k, j, acc, hj, rfl, rfl, hk, ha, hfa, hv, hu, hbel⟩ := hrel
    have HK := Lib.hid hk
    have HA := Lib.hid ha
    have HFA := Lib.hid hfa
    have HV := Lib.hid hv
    have HU := Lib.hid hu
    have HBE := Lib.hid hbel
    have hsz := hbel.size
    obtain ⟨A1, c1, hu', hc1⟩ := hu.shape
    subst hu'
    clear hk ha hfa hv hu hbel
    by_cases hlt : j < l.length
    · obtain ⟨g, o, rfl, hl0⟩ := (HR.out.below HBE.out).cell j (by simpa using hlt)
      rw [List.getElem_map] at hl0
      have hlx : l.getD j 0 = l[j] := by simp [List.getD, hlt]
      have hxw : l[j] < W64 := HF.out _ (List.getElem_mem _)
      have HLX := Lib.hid hlx
      have HM64 := Lib.hid (fun W => mul64 l[j] d hxw HD.out W)
      have HH := Lib.hid (mul_lt hxw HD.out)
      have HE := Lib.hid (Nat.div_add_mod (l[j] * d) W64).symm
      clear hlx hxw
      generalize l[j] = x at *
      have hhi : x * d / W64 < W64 - 1 := HH.out
      have hlo : x * d % W64 < W64 := Nat.mod_lt _ (by unfold W64; omega)
      have HLO := Lib.hid hlo
      have HHI := Lib.hid hhi
      clear hlo hhi
      generalize x * d / W64 = hi at *
      generalize x * d % W64 = lo at *
      have ca := fun W => call_add0 lo k W
      have HAE := Lib.hid (add_eq lo k 0)
      have HAL := Lib.hid (addLo_lt lo k 0)
      have hah := addHi_le HLO.out HK.out (show 0 ≤ 1 by omega)
      generalize addLo lo k 0 = lo' at *
      generalize addHi lo k 0 = cc at *
      have hs : IntKind.u64.wrap ((hi : Int) + (cc : Int)) = ((hi + cc : Nat) : Int) := by rw [← Int.natCast_add]; exact wrapN _ (by have := HHI.out; unfold W64 at *; omega)
      have HKN := Lib.hid (show hi + cc < W64 by have := HHI.out; unfold W64 at *; omega)
      have HST := Lib.hid (times_step HE.out HAE.out HA.out hlt HLX.out HV.out)
      clear hah
      have q : (j : Int) < l.length := by omega
      go_wp2_with fail
      refine (HM64.out _).mono ?_
      rintro e w' ⟨rfl, rfl⟩
      go_wp2_with (at_builtin; refine wpList_app ei_u64 okW0 rfl (.tmp 35) (.tmp 37) rfl w.heap.size _ _ _ rfl (HU.out.below (below_new _ _)) _ _ _ _ _ rfl (RV.fresh wr 28 [wv lo']) (fun u hu => by simp at hu; subst hu; rfl) (show j + 1 ≤ _ by omega) (show (j + 1) * 8 ≤ _ by omega) (by simp; omega) ?_; intro A3 c3 w3 hu3 hg3 ha3)
      go_roundw
      case rel => exact ⟨hi + cc, j + 1, acc ++ [lo'], by omega, by go_num, by go_num, HKN.out, by simp [HA.out], HFA.out.snoc HAL.out, HST.out, by rw [List.map_append]; exact hu3, (HBE.out.alloc (by omega) _).grown hg3 (by simp; omega) (fun k hk => (HU.out.lt k hk).1)⟩
      case measure => simp [intOf]; omega
    · obtain rfl : j = l.length := by omega
      have HVV := Lib.hid (show fval W64 (acc ++ [k]) = fval W64 l * d + more by rw [fval_snoc, HA.out, HV.out, List.take_length])
      clear hlt
      go_wp2_with (at_builtin; refine wpList_app ei_u64 okW0 rfl (.tmp 43) (.tmp 45) rfl w.heap.size _ _ _ rfl (HU.out.below (below_new _ _)) _ _ _ _ _ rfl (RV.fresh wr 28 [wv k]) (fun u hu => by simp at hu; subst hu; rfl) (show l.length + 1 ≤ _ by omega) (show (l.length + 1) * 8 ≤ _ by omega) (by simp; omega) ?_; intro A3 c3 w3 hu3 hg3 ha3)
      go_ret
      obtain ⟨_, _, he3, hc3⟩ := hu3.shape
      injection he3 with _ _ he3
      subst he3
      exact ⟨A3, _, acc ++ [k], rfl, by simp [HA.out], HFA.out.snoc HK.out, HVV.out, by rw [List.map_append]; exact RT.of_own hu3, hc3, (HBE.out.alloc (by omega) _).grown hg3 (by simp; omega) (fun k hk => (HU.out.lt k hk).1)⟩
/-- What bounded answers, by its parts. -/
def NatQ (x : Nat) (w : World) (A : Option Addr) (n c : Nat) (er : Value) : Prop := if blen x ≤ 8192 then er = .nilIface ∧ NatL w A n c x else er = enoV 11 ∧ A = none ∧ n = 0 ∧ c = 0
theorem NatB.open {x : Nat} {w w' : World} {e : Ending} (h : NatB x w e w') : ∃ A n c er, e = .returned (.tuple #[.agg #[.slice A n c], er]) ∧ NatQ x w' A n c er ∧ Below w.heap.size w w' := by
  unfold NatB at h
  by_cases hb : blen x ≤ 8192
  · rw [if_pos hb] at h
    obtain ⟨v, rfl, ⟨A, n, c, rfl, hl⟩, hbel⟩ := h
    exact ⟨A, n, c, _, rfl, by unfold NatQ; rw [if_pos hb]; exact ⟨rfl, hl⟩, hbel⟩
  · rw [if_neg hb] at h
    obtain ⟨rfl, hbel⟩ := h
    exact ⟨none, 0, 0, _, rfl, by unfold NatQ; rw [if_neg hb]; exact ⟨rfl, rfl, rfl, rfl⟩, hbel⟩
theorem NatQ.mk {x : Nat} {w w' : World} {A : Option Addr} {n c : Nat} {er : Value} (h : NatQ x w' A n c er) (hb : Below w.heap.size w w') : NatB x w (.returned (.tuple #[.agg #[.slice A n c], er])) w' := by
  unfold NatB
  unfold NatQ at h
  by_cases hx : blen x ≤ 8192
  · rw [if_pos hx] at h ⊢
    obtain ⟨rfl, hl⟩ := h
    exact ⟨_, rfl, ⟨A, n, c, rfl, hl⟩, hb⟩
  · rw [if_neg hx] at h ⊢
    obtain ⟨rfl, rfl, rfl, rfl⟩ := h
    exact ⟨rfl, hb⟩
theorem NatQ.set {x : Nat} {w : World} {A : Option Addr} {n c b i : Nat} {er : Value} {t : TypeId} {cs : Array Value} (h : NatQ x w A n c er) (hB : Blk w b t cs) (hne : 28 ≠ t) (u : Value) : NatQ x (w.setCell ⟨b, i, none⟩ u) A n c er := by
  unfold NatQ at h ⊢
  by_cases hx : blen x ≤ 8192
  · rw [if_pos hx] at h ⊢
    obtain ⟨l, h2, h3, h4, h5⟩ := h.2
    exact ⟨h.1, l, h2, h3, h4.set hB hne u, h5⟩
  · rw [if_neg hx] at h ⊢
    exact h
theorem NatV.open {x : Nat} {w w' : World} {e : Ending} (h : NatV x w e w') : ∃ A n c, e = .returned (.agg #[.slice A n c]) ∧ NatL w' A n c x ∧ Below w.heap.size w w' := by
  obtain ⟨v, rfl, ⟨A, n, c, rfl, hl⟩, hb⟩ := h
  exact ⟨A, n, c, rfl, hl, hb⟩
/-- made of a row of words. -/
theorem made_nat (A : Option Addr) (n c x : Nat) (m : List Nat) (w : World) (hl : m.length = n) (hf : Figs W64 m) (hv : fval W64 m = x) (hr : RT w 28 A (m.map wv)) (hc : n ≤ c) (hn : n ≤ 1000000000000) :
    Calls Tryz.prog 97 #[.slice A n c] w (NatV x w) := by
  subst hl hv
  exact (made_any A c m w hr hf hc hn).mono fun e w' h => h.nat hr hc
theorem blen_words {n x : Nat} (h : x < W64 ^ n) : blen x ≤ 64 * n := by rw [blen_le, Nat.pow_mul]; exact h
theorem natl_len {w : World} {A : Option Addr} {n c x : Nat} (h : NatL w A n c x) : 64 * n ≤ blen x + 63 := by
  obtain ⟨l, h1, rfl, _, _⟩ := h
  by_cases h0 : l.length = 0
  · omega
  · obtain ⟨j, hj⟩ : ∃ j, l.length = j + 1 := ⟨l.length - 1, by omega⟩
    have := blen_top h1 j hj
    have := blen_pos (h1.tops j hj.symm)
    omega

set_option maxRecDepth 100000 in
theorem times_nat (v : Value) (x d : Nat) (w : World) (hv : NatW w v x) (hd : d < W64) (hx : blen x ≤ 900000) :
    Calls Tryz.prog 117 #[v, wv d] w (NatB (x * d) w) := by
  obtain ⟨A, n, c, rfl, hl⟩ := hv
  have hn0 := natl_len hl
  have hn : n ≤ 20000 := by omega
  obtain ⟨l, hf, rfl, hr, hc⟩ := hl
  have HT := Lib.hid (fun W hb => times_any A c l d 0 W (hr.below hb) hf.figs hd (by unfold W64; omega) hc (by omega))
  rw [hf.val, Nat.add_zero] at HT
  have hbx : blen (x * d) ≤ 1000000 := by
    have h1 := blen_words hf.lt
    have h2 : blen (x * d) ≤ 64 * (l.length + 1) := blen_words (by
      rw [Nat.pow_succ]
      exact Nat.mul_lt_mul'' hf.lt hd)
    omega
  have HBX := Lib.hid hbx
  clear hr hf hbx hx hd hn0
  generalize x * d = y at *
  generalize l.length = n at *
  go_enter Tryz.func117, Tryz.ntmps117
  go_wp2_with fail
  refine (HT.out _ (by go_grown)).mono ?_
  rintro e w1 ⟨A1, c1, m, rfl, hm, hfm, hvm, hrm, hcm, hb1⟩
  have HB1 := Lib.hid (keepb (show Below w.heap.size w _ by go_grown) hb1)
  have HBK1 : Hid (Blk w1 (w.heap.size + 1) 126 #[.slice none 0 0]) := (by have := Blk.new (w.alloc (.cells #[.slice A n c] 126)) 126 #[.slice none 0 0]; simp only [World.size_alloc] at this; exact this.below hb1 (by simp))
  have HM := Lib.hid (made_nat A1 (n + 1) c1 y m w1 hm hfm hvm hrm hcm (by omega))
  clear hm hfm hvm hrm hb1
  go_wp2_with fail
  refine HM.out.mono ?_
  rintro e w2 ⟨v2, rfl, hv2, hb2⟩
  have HB2 := Lib.hid (keepb HB1.out hb2)
  have HBK2 : Hid (Blk w2 (w.heap.size + 1) 126 #[.slice none 0 0]) := HBK1.out.below hb2 HBK1.out.lt
  have HN := Lib.hid (bounded_any v2 y w2 hv2 HBX.out)
  obtain ⟨A2, n2, c2, rfl, _⟩ := hv2
  clear hb2
  go_wp2_with fail
  refine HN.out.mono ?_
  rintro e w3 h3
  obtain ⟨A3, n3, c3, er, rfl, hq, hb3⟩ := h3.open
  have HB3 := Lib.hid (keepb HB2.out hb3)
  have HBK3 : Hid (Blk w3 (w.heap.size + 1) 126 #[.slice none 0 0]) := HBK2.out.below hb3 HBK2.out.lt
  have HQ := Lib.hid hq
  have hc3 := HBK3.out.cell 0
  have hf3 := HBK3.out.frozen 0
  simp at hc3
  have hp := HBK3.out.put (i := 0) (by simp)
  clear h3 hq hb3
  go_wp2_with fail
  exact bodyPost_ret (v := .tuple #[.agg #[.slice A3 n3 c3], er]) (by simp [results, Tryz.results117, go_sem, hp]) rfl ((HQ.out.set HBK3.out (by decide) _).mk (HB3.out.setCell (by simp) _))
end Go.Proofs.YtjggmdlecdbeeaaGreatDoor
