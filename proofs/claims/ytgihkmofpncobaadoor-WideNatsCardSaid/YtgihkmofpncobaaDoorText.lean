/- The contract of a number's Text. -/
import Derived.Test.YtgihkmofpncobaaDoorNatC
import Derived.Test.YtgihkmofpncobaaDoorRev
import Derived.Test.YtgihkmofpncobaaDoorTextP
import Derived.Test.YtgihkmofpncobaaDoorBytes
import Derived.Deep.LoopGhost
namespace Go.Proofs.YtgihkmofpncobaaDoor
open Go.RowKit
set_option linter.unusedSimpArgs false
set_option linter.unusedVariables false

/-- Words of the call's own, in a slice. -/
def WO (w : World) (base : Nat) (A : Option Addr) (n c : Nat) (L : List Nat) : Prop :=
  L.length = n ∧ n ≤ c ∧ ((A = none ∧ n = 0) ∨ ∃ (g : Nat) (cs : Array Value), A = some ⟨g, 0, none⟩ ∧ Blk w g 35 cs ∧ base ≤ g ∧ n ≤ cs.size ∧ ∀ j (h : j < L.length), cs[j]? = some (wv L[j]))
theorem WO.rt {w : World} {base : Nat} {A : Option Addr} {n c : Nat} {L : List Nat} (h : WO w base A n c L) : RT w 35 A (L.map wv) := by
  obtain ⟨hl, _, h⟩ := h
  rcases h with ⟨h1, h2⟩ | ⟨g, cs, hA, hB, _, _, hc⟩
  · exact .inl ⟨h1, by rw [List.eq_nil_of_length_eq_zero (hl.trans h2)]; rfl⟩
  · exact .inr ⟨g, 0, cs, hA, hB, fun j hj => by rw [Nat.zero_add, hc j (by simpa using hj)]; simp⟩
theorem WO.below {w w' : World} {base : Nat} {A : Option Addr} {n c : Nat} {L : List Nat} (h : WO w base A n c L) (hb : Below w.heap.size w w') : WO w' base A n c L :=
  ⟨h.1, h.2.1, by
    rcases h.2.2 with h | ⟨g, cs, hA, hB, h3⟩
    · exact .inl h
    · exact .inr ⟨g, cs, hA, hB.below hb hB.lt, h3⟩⟩
theorem WO.grown {w w' : World} {base : Nat} {A : Option Addr} {n c : Nat} {L : List Nat} {row : Option Nat} (h : WO w base A n c L) (hg : w.grownBy w' row) (hr : ∀ g cs, Blk w g 35 cs → some g ≠ row) : WO w' base A n c L :=
  ⟨h.1, h.2.1, by
    rcases h.2.2 with h | ⟨g, cs, hA, hB, h3⟩
    · exact .inl h
    · exact .inr ⟨g, cs, hA, hB.grown hg (hr g cs hB), h3⟩⟩
theorem WO.take {w : World} {base : Nat} {A : Option Addr} {n c k : Nat} {L : List Nat} (h : WO w base A n c L) (hk : k ≤ n) : WO w base A k c (L.take k) :=
  ⟨by have := h.1; simp; omega, by have := h.2.1; omega, by
    rcases h.2.2 with ⟨h1, h2⟩ | ⟨g, cs, hA, hB, h3, h4, h5⟩
    · exact .inl ⟨h1, by omega⟩
    · refine .inr ⟨g, cs, hA, hB, h3, by omega, fun j hj => ?_⟩
      rw [h5 j (by have := h.1; simp at hj; omega)]; simp⟩

theorem clone_words (A : Option Addr) (n c : Nat) (L : List Nat) (w : World) (hr : RT w 35 A (L.map wv)) (hl : L.length = n) (hn : n ≤ 1000000) :
    Calls Tryd.prog 44 #[.slice A n c] w fun e w' => ∃ A' c', e = .returned (.slice A' n c') ∧ WO w' w.heap.size A' n c' L ∧ Below w.heap.size w w' := by
  rcases hr with ⟨rfl, h0⟩ | ⟨g, o, cs, rfl, hB, hc⟩
  · have h0 : L = [] := by simpa using h0
    subst h0 hl
    exact (Tryd.slices_Clone_nil 0 c w).mono fun e w' ⟨h1, h2⟩ => ⟨none, 0, h1, ⟨rfl, Nat.le_refl _, .inl ⟨rfl, rfl⟩⟩, by rw [h2]; exact Below.refl _ _⟩
  · obtain ⟨i, hi, hz, hs, hb⟩ := ei_u64.info
    have hsz : ∀ w, (Go.sizeOf 35).run Tryd.prog w = .ok 1 w := fun w => by kernel_rfl
    refine (Tryd.slices_Clone i (.int .u64 0) 1 8 hi hz hs hb rfl (by omega) hsz g o n c (L.map wv) w (by simpa using hl) (by unfold maxLen; omega) (by omega) ?_ (fun u hu => by obtain ⟨x, _, rfl⟩ := List.mem_map.1 hu; rfl)).mono ?_
    · intro j u hu
      obtain ⟨hj, rfl⟩ := List.getElem?_eq_some_iff.1 hu
      rw [hB.cell]; exact hc j hj
    · rintro e w' ⟨v', rfl, hown, hne, hbel⟩
      rcases hown.2 with ⟨rfl, _⟩ | ⟨g', cap, cur, rfl, h1, h2, h3, _, h5, h6⟩
      · exact absurd rfl hne
      · refine ⟨_, cap, rfl, ⟨hl, h3, .inr ⟨g', cur, rfl, h2, h1, by omega, fun j hj => ?_⟩⟩, hbel⟩
        have h7 : (cur.toList.take (n * 1))[j]? = (L.map wv)[j]? := by rw [h6]
        rw [List.getElem?_take_of_lt (by omega), List.getElem?_map, List.getElem?_eq_getElem hj] at h7
        simpa using h7
/-- Ten to the power 18: behind a name. -/
def D18 : Nat := 1000000000000000000
theorem div18 (left x : Nat) (hl : left < D18) (hx : x < W64) (w : World) :
    Calls Tryd.prog 45 #[wv left, wv x, .int .u64 1000000000000000000] w fun e w' => e = .returned (.tuple #[wv ((left * W64 + x) / D18), wv ((left * W64 + x) % D18)]) ∧ Below w.heap.size w w' :=
  div64 left x D18 hl hx (by unfold D18 W64; omega) w
theorem quo18 {left x : Nat} (hl : left < D18) (hx : x < W64) : (left * W64 + x) / D18 < W64 := by
  unfold D18 W64 at *
  omega
theorem take_of_take {L M : List Nat} {i : Nat} (h : M.take (i + 1) = L.take (i + 1)) : M.take i = L.take i := by
  have := congrArg (List.take i) h
  rwa [List.take_take, List.take_take, Nat.min_eq_left (by omega)] at this
theorem getD_of_take {L M : List Nat} {i : Nat} (h : M.take (i + 1) = L.take (i + 1)) (hi : i < L.length) (hm : i < M.length) : M[i] = L[i] := by
  have h1 : (M.take (i + 1))[i]? = (L.take (i + 1))[i]? := by rw [h]
  rw [List.getElem?_take_of_lt (by omega), List.getElem?_take_of_lt (by omega), List.getElem?_eq_getElem hi, List.getElem?_eq_getElem hm] at h1
  simpa using h1

theorem field_w (A : Option Addr) (n c : Nat) (w : World) : (Instr.field 26 (.agg #[.slice A n c]) 0).run Tryd.prog w = .ok (.slice A n c) w := by kernel_rfl
def okB : Value → Prop := fun u => ∃ b : UInt8, u = bv b
theorem ei_u8 : EI Tryd.prog 86 5 (.int .u8 0) 1 := ⟨Tryd.underlying86, info_parts info_u8, rfl, rfl⟩
/-- Letters of digits told so far. -/
def Ds (acc : List Nat) : List Value := (acc.map dch).map bv
theorem Ds_length (acc : List Nat) : (Ds acc).length = acc.length := by simp [Ds]
theorem Ds_snoc (acc : List Nat) (d : Nat) : Ds (acc ++ [d]) = Ds acc ++ [bv (dch d)] := by simp [Ds]
theorem pow10_blen {n x : Nat} (h : 10 ^ n ≤ x) : n ≤ blen x := by
  have h1 : 2 ^ n ≤ 10 ^ n := Nat.pow_le_pow_left (by omega) n
  have h2 := blen_lt x
  have h3 : 2 ^ n < 2 ^ blen x := by omega
  exact Nat.le_of_lt (pow_lt_inj (by omega) h3)

set_option maxRecDepth 100000 in
set_option maxHeartbeats 8000000 in
theorem text_nat (v : Value) (x0 : Nat) (w : World) (hv : NatW w v x0) (hx : blen x0 ≤ 900000) :
    Calls Tryd.prog 8 #[v] w fun e w' => e = .returned (.string ⟨(dtext x0).toArray⟩) ∧ Below w.heap.size w w' := by
  obtain ⟨A, n, c, rfl, hl⟩ := hv
  have hn0 := natl_len hl
  have hn : n ≤ 20000 := by omega
  obtain ⟨l, hf, hln, hr, hc⟩ := hl
  have HCL := Lib.hid (fun W hb => clone_words A n c l W (hr.below hb) hln (by omega))
  have HF := Lib.hid hf
  clear hr hf hn0 hln
  go_enter Tryd.func8, Tryd.ntmps8
  go_wp2_with fail
  refine (HCL.out _ (by go_grown)).mono ?_
  rintro e w1 ⟨A1, c1, rfl, hw1, hb1⟩
  have HW1 := Lib.hid hw1
  have HB1 := Lib.hid (keepb (show Below w.heap.size w _ by go_grown) hb1)
  clear hw1 hb1
  go_wp2_with fail
  go_loopg [3, 4] x0 (fun x s3 s4 wr => ∃ (A : Option Addr) (n c : Nat) (L acc : List Nat), s3 = .slice A n c ∧ WO wr w.heap.size A n c L ∧ IsF W64 x L ∧ n ≤ 20000 ∧ OwnR wr w.heap.size 5 okB s4 acc.length (Ds acc) ∧
      Figs 10 acc ∧ x0 = fval 10 acc + 10 ^ acc.length * x ∧ (0 < x ∨ Tops acc) ∧ Below w.heap.size w wr)
  case atStart =>
    refine ⟨A1, n, c1, l, [], rfl, ?_, HF.out, hn, OwnR.nil _ _ _ _, Figs.nil _, by simp [fval], .inr (fun i h => by simp at h), HB1.out⟩
    obtain ⟨h1, h2, h3⟩ := HW1.out
    refine ⟨h1, h2, ?_⟩
    rcases h3 with h3 | ⟨g, cs, h4, h5, h6, h7⟩
    · exact .inl h3
    · exact .inr ⟨g, cs, h4, h5, by simp at h6; omega, h7⟩
  case round =>
    obtain ⟨A, n, c, L, acc, rfl, hwo, hfl, hn2, hu, hfa, hx0, htop, hbel⟩ := hrel
    obtain ⟨wo, rfl⟩ : ∃ wo : World, wo = wr := ⟨_, rfl⟩
    obtain ⟨x, rfl⟩ : ∃ x : Nat, x = gk := ⟨_, rfl⟩
    obtain ⟨Ab, cb, hub, _⟩ := hu.shape
    subst hub
    have HU := Lib.hid hu
    have HFL := Lib.hid hfl
    have HFA := Lib.hid hfa
    have HX0 := Lib.hid hx0
    have HTOP := Lib.hid htop
    have HBE := Lib.hid hbel
    have hsz := hbel.size
    have hac : acc.length ≤ 1000000 := by
      rcases Nat.eq_zero_or_pos x with h0 | h0
      · have h1 : acc = [] ∨ 0 < acc.length := by cases acc <;> simp
        rcases h1 with h1 | h1
        · rw [h1]; simp
        · have h2 : IsF 10 x0 acc := ⟨hfa, by rw [hx0, h0]; simp, htop.resolve_left (by omega)⟩
          have h3 := pow10_blen (h2.ge (acc.length - 1) (by omega))
          omega
      · have h1 : 10 ^ acc.length ≤ x0 := by
          rw [hx0]
          have := Nat.mul_le_mul_left (10 ^ acc.length) h0
          omega
        have := pow10_blen h1
        omega
    clear hu hfl hfa hx0 htop hbel
    by_cases hp : 0 < n
    · obtain ⟨hLn, hnc, h⟩ := hwo
      obtain ⟨g, cs0, rfl, hblk, hbg, hcs0, hcell⟩ : ∃ (g : Nat) (cs : Array Value), A = some ⟨g, 0, none⟩ ∧ Blk wo g 35 cs ∧ w.heap.size ≤ g ∧ n ≤ cs.size ∧ ∀ j (h : j < L.length), cs[j]? = some (wv L[j]) := by
        rcases h with ⟨_, h⟩ | h
        · omega
        · exact h
      have HLN := Lib.hid hLn
      have HBLK := Lib.hid hblk
      have HCELL := Lib.hid hcell
      have t0 : decide (0 < n) = true := by simp; omega
      have t0' : decide ((0 : Int) < n) = true := by simp; omega
      clear hLn hblk hcell h
      go_wp2_with fail
      go_loopw [5, 6] (fun s5 s6 wr => ∃ (j left : Nat) (M : List Nat) (cs : Array Value), s5 = wv left ∧ s6 = .int .i64 ((j : Int) - 1) ∧ j ≤ n ∧ M.length = n ∧ Figs W64 M ∧ M.take j = L.take j ∧
          fval W64 (L.drop j) = D18 * fval W64 (M.drop j) + left ∧ left < D18 ∧ Blk wr g 35 cs ∧ n ≤ cs.size ∧ (∀ k (h : k < M.length), cs[k]? = some (wv M[k])) ∧ But wo.heap.size g wo wr) (fun _ s6 _ => (intOf s6 + 1).toNat)
      case atStart => exact ⟨n, 0, L, cs0, rfl, rfl, Nat.le_refl _, HLN.out, HFL.out.figs, rfl, by rw [← HLN.out, List.drop_length]; simp [fval], by unfold D18; omega, HBLK.out, hcs0, HCELL.out, But.refl _ _ _⟩
      case round =>
        obtain ⟨j, left, M, cs, rfl, rfl, hj, hMn, hMf, hMt, hMv, hleft, hb, hcs, hMc, hbut⟩ := hrel
        have HMN := Lib.hid hMn
        have HMF := Lib.hid hMf
        have HMT := Lib.hid hMt
        have HMV := Lib.hid hMv
        have HLEFT := Lib.hid hleft
        have HB := Lib.hid hb
        have HMC := Lib.hid hMc
        have HBUT := Lib.hid hbut
        have hgs := hb.lt
        clear hMn hMf hMt hMv hleft hb hMc hbut
        cases j with
        | succ i =>
          have hc0 := HB.out.cell i
          rw [HMC.out i (by rw [HMN.out]; omega)] at hc0
          have hf0 := HB.out.frozen i
          have hMi : M[i]'(by rw [HMN.out]; omega) = L[i]'(by rw [HLN.out]; omega) := getD_of_take HMT.out _ _
          have hLw : L[i]'(by rw [HLN.out]; omega) < W64 := HFL.out.figs _ (List.getElem_mem _)
          rw [hMi] at hc0
          have hgd : L.getD i 0 = L[i]'(by rw [HLN.out]; omega) := by simp [List.getD, show i < L.length by rw [HLN.out]; omega]
          have HGD := Lib.hid hgd
          have HD := Lib.hid (fun W => div18 left (L[i]'(by rw [HLN.out]; omega)) HLEFT.out hLw W)
          have HQ := Lib.hid (quo18 HLEFT.out hLw)
          have HR := Lib.hid (Nat.mod_lt (left * W64 + L[i]'(by rw [HLN.out]; omega)) (show 0 < D18 by unfold D18; omega))
          have HE := Lib.hid (Nat.div_add_mod (left * W64 + L[i]'(by rw [HLN.out]; omega)) D18)
          clear hMi hLw hgd
          generalize L[i]'(by rw [HLN.out]; omega) = xi at *
          generalize (left * W64 + xi) / D18 = q at *
          generalize (left * W64 + xi) % D18 = r at *
          have q0 : (0 : Int) ≤ i := by omega
          have q1 : (i : Int) < n := by omega
          go_wp2_with fail
          refine (HD.out _).mono ?_
          rintro e w2 ⟨rfl, hb2⟩
          have HBL2 := Lib.hid (HB.out.below hb2 hgs)
          have HBU2 := Lib.hid (HBUT.out.trans (But.of_below (hb2.mono HBUT.out.size)))
          have hc2 := HBL2.out.cell i
          rw [HMC.out i (by rw [HMN.out]; omega)] at hc2
          have hf2 := HBL2.out.frozen i
          clear hc0 hf0 hb2
          go_wp2_with fail
          go_roundw
          case rel =>
            refine ⟨i, r, M.set i q, cs.setIfInBounds i (wv q), rfl, by go_num, by omega, by simpa using HMN.out, HMF.out.set HQ.out, ?_, ?_, HR.out, HBL2.out.set1 i (wv q), by simpa using hcs, ?_, HBU2.out.setCell (.inl rfl) _⟩
            · rw [List.take_set_of_le (by omega)]; exact take_of_take HMT.out
            · exact divs_step (by rw [HLN.out]; omega) (by rw [HMN.out, HLN.out]) HMV.out (by rw [HGD.out]; exact HE.out.symm)
            · intro k hk
              rw [List.length_set] at hk
              rw [Array.getElem?_setIfInBounds, List.getElem_set]
              by_cases hik : i = k
              · subst hik; simp [show i < cs.size by omega]
              · rw [if_neg hik, if_neg hik]; exact HMC.out k hk
          case measure => simp [intOf]
        | zero =>
          have hMx : x = D18 * fval W64 M + left := by have := HMV.out; rw [List.drop_zero, List.drop_zero, HFL.out.val] at this; exact this
          have hx0' : 0 < x := (HFL.out.pos (by unfold W64; omega)).1 (by rw [HLN.out]; exact hp)
          have HT := Lib.hid (Tell.start HFA.out HX0.out hMx HLEFT.out hx0')
          have hxq : fval W64 M < x := by rw [hMx]; unfold D18 at *; omega
          have HRT : Hid (RT wr 35 (some ⟨g, 0, none⟩) (M.map wv)) := .inr ⟨g, 0, cs, rfl, HB.out, fun k hk => by rw [Nat.zero_add, HMC.out k (by simpa using hk)]; simp⟩
          have HMD := Lib.hid (made_any (some ⟨g, 0, none⟩) c M wr HRT.out HMF.out (by rw [HMN.out]; exact hnc) (by rw [HMN.out]; omega))
          rw [HMN.out] at HMD
          clear hMx hx0'
          go_wp2_with fail
          refine HMD.out.mono ?_
          rintro e w3 ⟨k, rfl, hk, hif, hb3⟩
          have HIF := Lib.hid hif
          have hkx := hif.pos (by unfold W64; omega)
          have hkl : (M.take k).length = k := by simp; omega
          rw [hkl] at hkx
          have HKX := Lib.hid hkx
          have HBL3 := Lib.hid (HB.out.below hb3 hgs)
          have HBE3 := Lib.hid (HBE.out.trans (((HBUT.out.mono hsz).toBelow hbg).trans (hb3.mono (Nat.le_trans hsz HBUT.out.size))))
          have hne := own_apart HU.out.own HBLK.out (by decide)
          have HU3 := Lib.hid ((HU.out.but HBUT.out hne).below hb3)
          have hkn : k ≤ n := by rw [HMN.out] at hk; exact hk
          have HXQ := Lib.hid hxq
          clear hb3 hif hkl hne hk hxq hkx
          generalize fval W64 M = xq at *
          have fld := fun W => field_w (some ⟨g, 0, none⟩) k c W
          go_wp2_with fail
          go_loopw [4, 5, 7] (fun s4 s5 s7 wr => ∃ (i left : Nat) (acc2 : List Nat), s5 = wv left ∧ s7 = .int .i64 i ∧ OwnR wr w.heap.size 5 okB s4 acc2.length (Ds acc2) ∧ Tell x0 acc2 i left xq ∧ acc2.length ≤ 1000018 ∧ acc2.length = acc.length + i ∧
              Blk wr g 35 cs ∧ Below w.heap.size w wr) (fun _ _ s7 _ => 18 - (intOf s7).toNat)
          case atStart => exact ⟨0, left, acc, rfl, rfl, HU3.out, HT.out, by omega, rfl, HBL3.out, HBE3.out⟩
          case round =>
            obtain ⟨i, left2, acc2, rfl, rfl, hu4, ht4, hac4, hal4, hb4, hbe4⟩ := hrel
            obtain ⟨A4, c4, hub4, _⟩ := hu4.shape
            subst hub4
            have HU4 := Lib.hid hu4
            have HAL4 := Lib.hid hal4
            have HT4 := Lib.hid ht4
            have HB4 := Lib.hid hb4
            have HBE4 := Lib.hid hbe4
            have hsz4 := hbe4.size
            have hi18 := ht4.hi
            have HBND := Lib.hid (show left2 < W64 by have := ht4.lt; have h2 : 10 ^ (18 - i) ≤ 10 ^ 18 := Nat.pow_le_pow_right (by omega) (by omega); unfold W64; omega)
            clear hu4 ht4 hb4 hbe4 hal4
            by_cases hc1 : i < 18 ∧ (0 < k ∨ 0 < left2)
            · obtain ⟨hi, hor⟩ := hc1
              have t1 : decide ((i : Int) < 18) = true := by simp; omega
              have hor' : 0 < xq ∨ 0 < left2 := hor.imp (fun h => HKX.out.1 h) id
              have HS := Lib.hid (HT4.out.step hi hor')
              have hsz10 := pow10_blen (HT4.out.size hor')
              have hd9 : left2 % 10 < 10 := Nat.mod_lt _ (by omega)
              have r1 : (left2 : Int) % 10 = ((left2 % 10 : Nat) : Int) := by omega
              have r2 : (left2 : Int).tmod 10 = ((left2 % 10 : Nat) : Int) := by rw [Int.tmod_eq_emod_of_nonneg (by omega)]; omega
              have r3 : IntKind.u64.wrap ((left2 : Int) / 10) = ((left2 / 10 : Nat) : Int) := by rw [show (left2 : Int) / 10 = ((left2 / 10 : Nat) : Int) by omega]; exact wrapN _ (Nat.lt_of_le_of_lt (Nat.div_le_self _ _) HBND.out)
              have hdc : (48 : Int) + ((left2 % 10 : Nat) : Int) = ((dch (left2 % 10)).toNat : Int) := by rw [dch_toNat hd9]; omega
              have HDC := Lib.hid hdc
              have hdi : ((left2 % 10 : Nat) : Int) < 10 := by omega
              clear hdc
              have hleft : decide (0 < left2) = true ∨ (decide (0 < left2) = false ∧ decide (0 < k) = true) := by
                by_cases h : 0 < left2
                · left; simpa using h
                · right; exact ⟨by simpa using h, by rcases hor with h1 | h1 <;> simp <;> omega⟩
              have hkor : decide (0 < k) = true ∨ (decide (0 < k) = false ∧ decide (0 < left2) = true) := by
                by_cases h : 0 < k
                · left; simpa using h
                · right; exact ⟨by simpa using h, by rcases hor with h1 | h1 <;> simp <;> omega⟩
              clear hor hor' hleft
              generalize left2 % 10 = d at *
              generalize left2 / 10 = l2 at *
              rcases hkor with t2 | ⟨t2, t3⟩
              all_goals
                go_wp2_with (at_builtin; refine wpList_app ei_u8 ⟨0, rfl⟩ rfl (.tmp 49) (.tmp 54) rfl w.heap.size _ _ _ rfl (HU4.out.below (below_new _ _)) _ _ _ _ _ rfl (RV.fresh wr 5 [.int .u8 (48 + (d : Int))]) (fun u hu => by simp at hu; subst hu; rfl) (show acc2.length + 1 ≤ _ by omega) (show (acc2.length + 1) * 1 ≤ _ by omega) (by simp; omega) ?_; intro A5 c5 w5 hu5 hg5 ha5)
                have hnew : Ds acc2 ++ [Value.int .u8 (48 + (d : Int))] = Ds (acc2 ++ [d]) := by rw [Ds_snoc, HDC.out]
                rw [hnew] at hu5
                have HU5 := Lib.hid hu5
                have HB5 := Lib.hid ((HB4.out.alloc (.cells #[.int .u8 (48 + (d : Int))] 5)).grown hg5 (fun h => own_apart (HU4.out.below (below_new wr (.cells #[.int .u8 (48 + (d : Int))] 5))).own (HB4.out.alloc _) (by decide) h.symm))
                have HBE5 := Lib.hid ((HBE4.out.alloc hsz4 _).grown hg5 (by simp; omega) (fun k hk => (HU4.out.lt k hk).1))
                clear hnew hu5 hg5
                go_wp2_with fail
                go_roundw
                case rel => exact ⟨i + 1, l2, acc2 ++ [d], rfl, by go_num, by rw [List.length_append]; exact HU5.out, HS.out, by rw [List.length_append, List.length_singleton]; omega, by rw [List.length_append, List.length_singleton, HAL4.out]; omega, HB5.out, HBE5.out⟩
                case measure => simp [intOf]; omega
            · have hdone : i = 18 ∨ (xq = 0 ∧ left2 = 0) := by
                by_cases h : i < 18
                · right
                  have h1 : ¬ (0 < k ∨ 0 < left2) := fun h2 => hc1 ⟨h, h2⟩
                  constructor
                  · have : ¬ 0 < xq := fun h3 => h1 (.inl (HKX.out.2 h3))
                    omega
                  · omega
                · left; omega
              obtain ⟨hX, hT⟩ := HT4.out.done hdone
              have HXX := Lib.hid hX
              have HTT := Lib.hid hT
              have HWO : Hid (WO wr w.heap.size (some ⟨g, 0, none⟩) k c (M.take k)) := ⟨by rw [List.length_take, HMN.out]; omega, by omega, .inr ⟨g, cs, rfl, HB4.out, hbg, by omega, fun j hj => by rw [HMC.out j (by rw [List.length_take] at hj; omega), List.getElem_take]⟩⟩
              have hways : decide ((i : Int) < 18) = false ∨ (decide ((i : Int) < 18) = true ∧ decide (0 < k) = false ∧ decide (0 < left2) = false) := by
                by_cases h : i < 18
                · right
                  have h1 : ¬ (0 < k ∨ 0 < left2) := fun h2 => hc1 ⟨h, h2⟩
                  exact ⟨by simp; omega, by simp; omega, by simp; omega⟩
                · left; simp; omega
              clear hX hT hdone hc1
              rcases hways with t1 | ⟨t1, t2, t3⟩
              all_goals
                go_wp2_with fail
                go_roundg xq
                case measure => exact HXQ.out
                case rel => exact ⟨some ⟨g, 0, none⟩, k, c, M.take k, acc2, rfl, HWO.out, HIF.out, by omega, HU4.out, HT4.out.figs, HXX.out, HTT.out, HBE4.out⟩
    · obtain rfl : n = 0 := by omega
      have hx00 : x = 0 := by
        have h1 := HFL.out.pos (by unfold W64; omega)
        rw [hwo.1] at h1
        omega
      subst hx00
      have hisf : IsF 10 x0 acc := ⟨HFA.out, by rw [HX0.out]; simp, HTOP.out.resolve_left (by omega)⟩
      clear hwo hp
      by_cases h0 : x0 = 0
      · subst h0
        have ha0 : acc = [] := hisf.zero (by omega)
        subst ha0
        clear hisf
        go_wp2_with fail
        go_ret
        exact ⟨rfl, HBE.out⟩
      · have hpos : 0 < acc.length := (hisf.pos (by omega)).2 (by omega)
        have HDT := Lib.hid (dtext_of hisf h0)
        obtain ⟨g, cap, rest, hAb, hgb, hblk, hcap, _, _⟩ : ∃ (g cap : Nat) (rest : List Value), Value.slice Ab acc.length cb = .slice (some ⟨g, 0, none⟩) acc.length cap ∧ w.heap.size ≤ g ∧ Blk wo g 5 (Ds acc ++ rest).toArray ∧ acc.length + rest.length = cap ∧ cap ≤ maxLen ∧ ∀ u ∈ rest, okB u := by
          rcases HU.out.2 with ⟨_, h1⟩ | h1
          · omega
          · exact h1
        injection hAb with e1 _ e3
        subst e1 e3
        have hrl : (acc.map dch).length = acc.length := by simp
        have HRV := Lib.hid (reverse_any w.heap.size g cb (acc.map dch) rest wo hblk (by rw [hrl]; omega))
        rw [hrl] at HRV
        have t1 : ((acc.length : Int) == 0) = false := by rw [beq_eq_false_iff_ne]; omega
        clear hisf hblk hcap hrl
        go_wp2_with fail
        refine HRV.out.mono ?_
        rintro e w5 ⟨rfl, hb5, hbut5⟩
        have hrb : RB w5 w5.heap.size (some ⟨g, 0, none⟩) acc.length ((acc.map dch).reverse) := ⟨by simp, fun _ => ⟨g, 0, rfl, hb5.lt, fun j hj => by
          rw [hb5.cell, Nat.zero_add, List.getElem?_toArray, List.getElem?_append_left (by simpa using hj), List.getElem?_map, List.getElem?_eq_getElem hj]; rfl⟩⟩
        have hstr := fun c' => str_of_RB hrb c'
        have HB5 := Lib.hid (HBE.out.trans ((hbut5.mono hsz).toBelow hgb))
        rw [← HDT.out] at hstr
        clear hb5 hbut5 hrb
        go_wp2_with fail
        go_ret
        exact ⟨rfl, HB5.out⟩
end Go.Proofs.YtgihkmofpncobaaDoor
