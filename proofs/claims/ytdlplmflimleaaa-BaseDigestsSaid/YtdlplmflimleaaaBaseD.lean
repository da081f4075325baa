/- The contract of base.put, for bytes. -/
import Derived.Test.YtdlplmflimleaaaBaseC
import Derived.Deep.RegionHeld3
import Derived.Deep.DrawnRows
import Derived.Deep.DeepMust
import Derived.BigRegion
namespace Go.Proofs.Ytdlplmflimleaaa
open Go.RowKit
set_option linter.unusedSimpArgs false
set_option linter.unusedVariables false

/-- A writer's cells. -/
abbrev wcells (a : Int) (r m : Nat) : Array Value := #[.int .u8 a, .int .u32 (r : Int), .int .i64 (m : Int)]

theorem wcells_set1 (a : Int) (r m r' : Nat) : (wcells a r m).setIfInBounds 1 (.int .u32 (r' : Int)) = wcells a r' m := by simp [wcells]
theorem wcells_set2 (a : Int) (r m m' : Nat) : (wcells a r m).setIfInBounds 2 (.int .i64 (m' : Int)) = wcells a r m' := by simp [wcells]

/-- What is behind put. -/
def PutPost (b base : Nat) (a : Int) (k r m N0 : Nat) (os bs : List UInt8) (w : World) (e : Ending) (w' : World) : Prop :=
  ∃ v, e = .returned v ∧ w'.ownsRow base 5 1 v (N0 + wT m bs / k) ((os ++ (wE k r m bs).map (Lat a)).map bv) ∧ Blk w' b 72 (wcells a (wR k r m bs) (wM k m bs)) ∧ But base b w w'

theorem and_u32 (q j : Nat) (hq : q < 4294967296) (hj : j < 32) : bits .and .u32 (q : Int) (((2 ^ j - 1 : Nat)) : Int) = ((q % 2 ^ j : Nat) : Int) := by
  have hp : 2 ^ j ≤ 2 ^ 31 := Nat.pow_le_pow_right (by omega) (by omega)
  have h1 : (BitVec.ofInt 32 (q : Int)).toNat = q := by
    rw [BitVec.ofInt_natCast, BitVec.toNat_ofNat]; exact Nat.mod_eq_of_lt (by omega)
  have h2 : (BitVec.ofInt 32 ((2 ^ j - 1 : Nat) : Int)).toNat = 2 ^ j - 1 := by
    rw [BitVec.ofInt_natCast, BitVec.toNat_ofNat]; exact Nat.mod_eq_of_lt (by omega)
  have h3 := Nat.mod_lt q (Nat.two_pow_pos j)
  show IntKind.u32.wrap ((BitVec.ofInt 32 (q : Int) &&& BitVec.ofInt 32 ((2 ^ j - 1 : Nat) : Int)).toNat : Int) = _
  rw [BitVec.toNat_and, h1, h2, IntKind.wrap_u32, Nat.and_two_pow_sub_one_eq_mod]
  omega

theorem ltr_get (a : Int) (i : Nat) (h : i < (Ltr a).size) : (Ltr a)[i] = Lat a i := by
  have h' : i < (LL a).length := by rw [← LL_size]; exact h
  rw [Lat_get a i h']
  exact (Array.getElem_toList (xs := (Ltr a).data) h).symm

theorem or_u32 (r x : Nat) (hr : r < 16777216) (hx : x < 256) : bits .or .u32 ((r : Int) * 256) (x : Int) = ((r * 256 + x : Nat) : Int) := by
  have e : (r : Int) * 256 = ((r * 256 : Nat) : Int) := by omega
  have h1 : (BitVec.ofInt 32 ((r * 256 : Nat) : Int)).toNat = r * 256 := by
    rw [BitVec.ofInt_natCast, BitVec.toNat_ofNat]; exact Nat.mod_eq_of_lt (by omega)
  have h2 : (BitVec.ofInt 32 (x : Int)).toNat = x := by
    rw [BitVec.ofInt_natCast, BitVec.toNat_ofNat]; exact Nat.mod_eq_of_lt (by omega)
  rw [e]
  show IntKind.u32.wrap ((BitVec.ofInt 32 ((r * 256 : Nat) : Int) ||| BitVec.ofInt 32 (x : Int)).toNat : Int) = _
  rw [BitVec.toNat_or, h1, h2, IntKind.wrap_u32]
  have := Nat.two_pow_add_eq_or_of_lt (b := x) (i := 8) (by omega) r
  rw [show r * 256 = 2 ^ 8 * r from by omega, ← this]
  omega

attribute [local go_sem ↓] Go.wp_at_zero Go.wp_at_succ

set_option maxRecDepth 100000 in
set_option maxHeartbeats 2000000 in
theorem put_4 (a : Int) (r m : Nat) (b base : Nat) (A : Option Addr) (n c B : Nat) (bs : List UInt8) (v : Value) (N0 : Nat) (os : List UInt8) (w : World)
    (h : RB w B A n bs) (hne : ∀ g o, A = some ⟨g, o, none⟩ → 0 < n → g ≠ b) (hB : B ≤ base) (hbb : b < base) (hbase : base ≤ w.heap.size)
    (hblk : Blk w b 72 (wcells a r m)) (hm : m < 4) (hr : r < 2 ^ m) (hown : w.ownsRow base 5 1 v N0 (os.map bv))
    (hk : Bt a = (4 : Nat)) (hn : n ≤ 1000000000) (hN : N0 ≤ 1000000000000) :
    Calls Try.prog 37 #[.pointer (some ⟨b, 0, none⟩), v, .slice A n c] w (PutPost b base a 4 r m N0 os bs w) := by
  have hl := h.1
  subst hl
  have K : Hid (Bt a = ((4 : Nat) : Int)) := hk
  have HR := Lib.hid h
  have hc0 := hblk.cell 0
  simp at hc0
  clear h hk
  go_enter Try.func37, Try.ntmps37
  go_wp2_with (first
    | (go_at_call 35; refine (bits_k _ _ _ K).mono ?_; rintro e w' ⟨rfl, rfl⟩))
  clear hc0
  have hw0 : Blk w b 72 (wcells a (wR 4 r m []) (wM 4 m [])) := by rw [wR_nil _ _ _ hm hr, wM_nil _ _ hm]; exact hblk
  have HW0 := Lib.hid hw0
  have ho0 : w.ownsRow base 5 1 v (N0 + wT m [] / 4) ((os ++ (wE 4 r m []).map (Lat a)).map bv) := by
    rw [wE_nil _ _ _ hm]; simpa [wT, Nat.div_eq_of_lt hm] using hown
  have HO0 := Lib.hid ho0
  clear hw0 ho0 hown hblk
  go_loopw [1, 8] (fun out i wr => ∃ q : Nat, q ≤ bs.length ∧ i = .int .i64 q ∧ wr.ownsRow base 5 1 out (N0 + wT m (bs.take q) / 4) ((os ++ (wE 4 r m (bs.take q)).map (Lat a)).map bv) ∧ Blk wr b 72 (wcells a (wR 4 r m (bs.take q)) (wM 4 m (bs.take q))) ∧ But base b w wr) (fun _ i _ => bs.length - (intOf i).toNat)
  case atStart => exact ⟨0, by omega, rfl, HO0.out, HW0.out, But.refl _ _ _⟩
  case round =>
    obtain ⟨q, hq, rfl, hown, hblk, hbut⟩ := hrel
    by_cases hlt : q < bs.length
    · have htk : bs.take (q + 1) = bs.take q ++ [bs[q]] := take_snoc' bs q hlt
      have hst := w_step 4 r m (bs.take q) bs[q] (by omega) _ _ rfl rfl
      rw [← htk] at hst
      have HST := Lib.hid hst
      have hMk := wM_lt 4 m (bs.take q) (by omega)
      have hRk := Nat.lt_of_lt_of_le (wR_lt 4 r m (bs.take q)) (Nat.pow_le_pow_right (by omega) (Nat.le_of_lt hMk))
      have hTl : wT m (bs.take q) / 4 ≤ 8 * q + 8 := by
        have : wT m (bs.take q) ≤ 8 * q + 4 := by unfold wT; simp; omega
        omega
      have hRB : RB w base A bs.length bs := HR.out.mono hB
      obtain ⟨g, o, hA, hg, hcell⟩ := (hRB.but hbut hne).2 (by omega)
      subst hA
      have hx := hcell q hlt
      have hxb : bs[q].toNat < 256 := UInt8.toNat_lt _
      clear hcell hRB hst htk
      have hEl := wE_length 4 r m (bs.take q)
      have hEl' := wE_length 4 r m (bs.take (q + 1))
      have HEL := Lib.hid hEl
      have HEL' := Lib.hid hEl'
      clear hEl hEl'
      generalize bs[q] = x at *
      generalize wR 4 r m (bs.take q) = R0 at *
      generalize wM 4 m (bs.take q) = M0 at *
      generalize wE 4 r m (bs.take q) = E0 at *
      generalize wT m (bs.take q) / 4 = L0 at *
      have hR0 : R0 < 64 := by simp at hRk; omega
      have hor := or_u32 R0 x.toNat (by omega) hxb
      have hgb : g ≠ b := hne g o rfl (by omega)
      have c0 := hblk.cell 0
      have c1 := hblk.cell 1
      have c2 := hblk.cell 2
      have f1 := hblk.frozen 1
      have f2 := hblk.frozen 2
      simp at c0 c1 c2
      have HBLK := Lib.hid hblk
      clear hblk hRk
      go_wp2
      go_region
      go_wp2
      clear c0 c1 c2 f1 f2 hx hor
      obtain ⟨R, hR⟩ : ∃ R : Nat, R = R0 * 256 + x.toNat := ⟨_, rfl⟩
      obtain ⟨T, hT⟩ : ∃ T : Nat, T = M0 + 8 := ⟨_, rfl⟩
      have HST2 := HST.out
      rw [← hR, ← hT] at HST2
      obtain ⟨hRT, hE, hR', hM'⟩ := HST2
      have HE := Lib.hid hE
      have HR' := Lib.hid hR'
      have HM' := Lib.hid hM'
      clear hE hR' hM' HST
      have hRb : R < 16384 := by omega
      have hTb : T < 4 + 8 := by omega
      have hT8 : 8 ≤ T := by omega
      generalize hW : ((wr.setCell ⟨b, 1, none⟩ (Value.int .u32 ((R0 : Int) * 256 + (x.toNat : Int)))).setCell ⟨b, 2, none⟩ (Value.int .i64 ((M0 : Int) + 8))).drew = W
      have hWb : Blk W b 72 (wcells a R T) := by
        have := ((HBLK.out.set1 1 (Value.int .u32 ((R0 : Int) * 256 + (x.toNat : Int)))).set1 2 (Value.int .i64 ((M0 : Int) + 8))).drew
        rw [hW] at this
        have e1 : ((R0 * 256 + x.toNat : Nat) : Int) = (R0 : Int) * 256 + (x.toNat : Int) := by omega
        have e2 : ((M0 + 8 : Nat) : Int) = (M0 : Int) + 8 := by omega
        rw [hR, hT]
        unfold wcells
        rw [e1, e2]
        simpa using this
      have hWbut : But base b w W := by
        rw [← hW]
        exact ((hbut.setCell (.inl rfl) _).setCell (.inl rfl) _).drew
      have hWown : W.ownsRow base 5 1 u1 (N0 + L0) ((os ++ E0.map (Lat a)).map bv) := by
        rw [← hW]
        exact (ownsRow_setCell_below (ownsRow_setCell_below hown hbb _) hbb _).drew
      have HWO := Lib.hid hWown
      have HWB := Lib.hid hWb
      have HWN := Lib.hid hWbut
      clear hW hWb hWbut hWown hown hbut HBLK
      have HRT := Lib.hid hRT
      have HRd := Lib.hid hR
      have HTd := Lib.hid hT
      clear hRT hR hT
      have hsz0 := HWN.out.size
      go_loopw [1] (fun out wi => ∃ j : Nat, j * 4 ≤ T ∧ wi.ownsRow base 5 1 out (N0 + L0 + j) ((os ++ (E0 ++ digs (2 ^ 4) j (R / 2 ^ (T - j * 4))).map (Lat a)).map bv) ∧ Blk wi b 72 (wcells a R (T - j * 4)) ∧ But base b w wi) (fun _ wi => (intOf ((wi.cell? ⟨b, 2, none⟩).getD undef)).toNat)
      case atStart => exact ⟨0, by omega, by simpa [digs] using HWO.out, by simpa using HWB.out, HWN.out⟩
      case round =>
        obtain ⟨j, hj, hown, hblk, hbut⟩ := hrel
        have HD := Lib.hid (w_letter 4 R T j)
        obtain ⟨t, ht⟩ : ∃ t : Nat, t = T - j * 4 := ⟨_, rfl⟩
        rw [← ht] at hown hblk
        have htT : t ≤ T := by omega
        by_cases hge : 4 ≤ t
        · obtain ⟨s, rfl⟩ : ∃ s, t = s + 4 := ⟨t - 4, by omega⟩
          have c0 := hblk.cell 0
          have c1 := hblk.cell 1
          have c2 := hblk.cell 2
          have f2 := hblk.frozen 2
          simp at c0 c1 c2
          have HBLK := Lib.hid hblk
          have HTJ := Lib.hid ht
          have HC2 := Lib.hid c2
          clear hblk ht
          go_wp2
          clear c0 c1 c2 f2
          generalize hW : wr.setCell ⟨b, 2, none⟩ (Value.int .i64 (s : Int)) = W2
          have hWb : Blk W2 b 72 (wcells a R s) := by
            have := HBLK.out.set1 2 (Value.int .i64 (s : Int))
            rw [hW] at this
            simpa using this
          have hWbut : But base b w W2 := by
            rw [← hW]
            exact hbut.setCell (.inl rfl) _
          have hWown : W2.ownsRow base 5 1 u1 (N0 + L0 + j) ((os ++ (E0 ++ digs (2 ^ 4) j (R / 2 ^ (s + 4))).map (Lat a)).map bv) := by
            rw [← hW]
            exact ownsRow_setCell_below hown hbb _
          have HBN := Lib.hid hWbut
          clear hW hown hbut HBLK hWbut
          have c0 := hWb.cell 0
          have c1 := hWb.cell 1
          have c2 := hWb.cell 2
          simp at c0 c1 c2
          have hnb : some b ≠ u1.ownBlock := (own_apart hWown hWb (by decide)).symm
          have hbW : b < W2.heap.size := hWb.lt
          have hbW' := HBN.out.size
          have HWOW := Lib.hid hWown
          have HWBW := Lib.hid hWb
          clear hWown hWb
          have hand : bits .and .u32 ((R : Int) / 2 ^ s) (IntKind.u32.wrap (IntKind.u32.wrap (2 ^ 4) - 1)) = ((R / 2 ^ s % 2 ^ 4 : Nat) : Int) := by
            have e1 : IntKind.u32.wrap (IntKind.u32.wrap (2 ^ 4) - 1) = ((2 ^ 4 - 1 : Nat) : Int) := by decide
            rw [e1, ← and_u32 _ 4 (Nat.lt_of_le_of_lt (Nat.div_le_self _ _) (by omega)) (by omega)]
            congr 1
          have hxl : R / 2 ^ s % 2 ^ 4 < 2 ^ 4 := Nat.mod_lt _ (Nat.two_pow_pos _)
          have hsz : (Ltr a).size = 2 ^ 4 := ltr_size a 4 K (by omega)
          have hget : ∀ hh, (Ltr a)[R / 2 ^ s % 2 ^ 4]'hh = Lat a (R / 2 ^ s % 2 ^ 4) := fun hh => ltr_get a _ hh
          have hxi : ((R / 2 ^ s % 2 ^ 4 : Nat) : Int) < ((Ltr a).size : Int) := by rw [hsz]; omega
          have hdd := HD.out (by rw [Nat.succ_mul]; have := HTJ.out; omega)
          have e3 : T - (j + 1) * 4 = s := by have := HTJ.out; rw [Nat.succ_mul]; omega
          have e4 : T - j * 4 = s + 4 := HTJ.out.symm
          rw [e3, e4] at hdd
          have HDD := Lib.hid hdd
          have E3 := Lib.hid e3
          clear hdd e3 e4 hsz
          generalize R / 2 ^ s % 2 ^ 4 = x0 at *
          clear hxl
          simp only [Nat.reducePow, Int.reducePow] at hand
          go_region_held3 (fun w' => w'.cell? ⟨b, 0, none⟩ = some (.int .u8 a) ∧ w'.cell? ⟨b, 1, none⟩ = some (.int .u32 R) ∧ w'.cell? ⟨b, 2, none⟩ = some (.int .i64 s))
            (first
              | (go_keep; done)
              | (refine ⟨?_, ?_, ?_⟩ <;> (rw [hg1.cell_far _ (by simp; omega) hnb]; go_keep)))
            (first
              | (go_at_call 40; refine (letters_any _ _).mono ?_; rintro e w' ⟨rfl, rfl⟩)
              | (refine step_push (by rfl) (.tmp 55) (.tmp 75) (by rfl) base u1 (N0 + L0 + j) (os ++ (E0 ++ digs (2 ^ 4) j (R / 2 ^ (s + 4))).map (Lat a)) (by rfl) (HWOW.out.drew.alloc _) _ _ (by rfl) (Lat a x0) (by simp) (by omega) (by simp; omega) ?_; intro g' cap' w1 hown1 hg1 hat1 hlt1))
          have hl : os ++ (E0 ++ digs (2 ^ 4) (j + 1) (R / 2 ^ (T - (j + 1) * 4))).map (Lat a) = os ++ (E0 ++ digs (2 ^ 4) j (R / 2 ^ (s + 4))).map (Lat a) ++ [Lat a x0] := by
            rw [E3.out, HDD.out]; simp
          have hb1 : Blk w1 b 72 (wcells a R s) := ((HWBW.out.alloc _).drew).grown hg1 hnb
          have hn1 : But base b w w1 := ((HBN.out.alloc (by omega) _).drew).grown hg1 (by simp; omega) (fun k' hk' => (HWOW.out.lt k' hk').1)
          have c2' := hb1.cell 2
          simp at c2'
          go_wp2
          go_roundw
          case rel => exact ⟨j + 1, by have := HTJ.out; rw [Nat.succ_mul]; omega, by rw [hl]; exact hown1, by rw [E3.out]; exact hb1, hn1⟩
          case measure => rw [HC2.out, c2']; simp [intOf]; omega
        · have c0 := hblk.cell 0
          have c1 := hblk.cell 1
          have c2 := hblk.cell 2
          have f1 := hblk.frozen 1
          simp at c0 c1 c2
          have HBLK := Lib.hid hblk
          have hand : bits .and .u32 (R : Int) ((2 ^ t - 1) % 4294967296) = ((R % 2 ^ t : Nat) : Int) := by
            have hp : 2 ^ t ≤ 2 ^ 6 := Nat.pow_le_pow_right (by omega) (by omega)
            have hp1 := Nat.two_pow_pos t
            have e1 : ((2 : Int) ^ t - 1) % 4294967296 = ((2 ^ t - 1 : Nat) : Int) := by
              have e0 : (2 : Int) ^ t = ((2 ^ t : Nat) : Int) := by simp
              rw [e0]; omega
            rw [e1, and_u32 R t (by omega) (by omega)]
          have hjT : j = T / 4 := by omega
          have htT' : t = T % 4 := by omega
          have HJT := Lib.hid hjT
          have HTT := Lib.hid htT'
          have HTJ := Lib.hid ht
          have hfin : (wE 4 r m (bs.take (q + 1))) = E0 ++ digs (2 ^ 4) j (R / 2 ^ t) := by rw [HE.out, HJT.out, HTT.out]
          have hlen : wT m (bs.take (q + 1)) / 4 = L0 + j := by
            rw [← HEL'.out, hfin, List.length_append, digs_length, HEL.out]
          have HFIN := Lib.hid hfin
          have HLEN := Lib.hid hlen
          clear hblk ht hjT htT' hfin hlen
          go_wp2
          go_region
          have hb1 : Blk (wr.setCell ⟨b, 1, none⟩ (.int .u32 ((R % 2 ^ t : Nat) : Int))).drew b 72 (wcells a (wR 4 r m (bs.take (q + 1))) (wM 4 m (bs.take (q + 1)))) := by
            have := (HBLK.out.set1 1 (Value.int .u32 ((R % 2 ^ t : Nat) : Int))).drew
            rw [wcells_set1] at this
            rw [HR'.out, HM'.out, ← HTT.out]
            exact this
          have HB1 := Lib.hid hb1
          clear hb1
          go_wp2
          go_roundw
          case rel =>
            refine ⟨q + 1, by omega, by go_num, ?_, HB1.out, (hbut.setCell (.inl rfl) _).drew⟩
            rw [HLEN.out, HFIN.out, ← Nat.add_assoc]
            exact (ownsRow_setCell_below hown hbb _).drew
          case measure => simp [intOf]; omega
    · obtain rfl : q = bs.length := by omega
      rw [List.take_length] at hown hblk
      clear hq hlt
      go_wp2
      go_ret
      exact ⟨_, rfl, hown, hblk, hbut⟩

set_option maxRecDepth 100000 in
set_option maxHeartbeats 2000000 in
theorem put_5 (a : Int) (r m : Nat) (b base : Nat) (A : Option Addr) (n c B : Nat) (bs : List UInt8) (v : Value) (N0 : Nat) (os : List UInt8) (w : World)
    (h : RB w B A n bs) (hne : ∀ g o, A = some ⟨g, o, none⟩ → 0 < n → g ≠ b) (hB : B ≤ base) (hbb : b < base) (hbase : base ≤ w.heap.size)
    (hblk : Blk w b 72 (wcells a r m)) (hm : m < 5) (hr : r < 2 ^ m) (hown : w.ownsRow base 5 1 v N0 (os.map bv))
    (hk : Bt a = (5 : Nat)) (hn : n ≤ 1000000000) (hN : N0 ≤ 1000000000000) :
    Calls Try.prog 37 #[.pointer (some ⟨b, 0, none⟩), v, .slice A n c] w (PutPost b base a 5 r m N0 os bs w) := by
  have hl := h.1
  subst hl
  have K : Hid (Bt a = ((5 : Nat) : Int)) := hk
  have HR := Lib.hid h
  have hc0 := hblk.cell 0
  simp at hc0
  clear h hk
  go_enter Try.func37, Try.ntmps37
  go_wp2_with (first
    | (go_at_call 35; refine (bits_k _ _ _ K).mono ?_; rintro e w' ⟨rfl, rfl⟩))
  clear hc0
  have hw0 : Blk w b 72 (wcells a (wR 5 r m []) (wM 5 m [])) := by rw [wR_nil _ _ _ hm hr, wM_nil _ _ hm]; exact hblk
  have HW0 := Lib.hid hw0
  have ho0 : w.ownsRow base 5 1 v (N0 + wT m [] / 5) ((os ++ (wE 5 r m []).map (Lat a)).map bv) := by
    rw [wE_nil _ _ _ hm]; simpa [wT, Nat.div_eq_of_lt hm] using hown
  have HO0 := Lib.hid ho0
  clear hw0 ho0 hown hblk
  go_loopw [1, 8] (fun out i wr => ∃ q : Nat, q ≤ bs.length ∧ i = .int .i64 q ∧ wr.ownsRow base 5 1 out (N0 + wT m (bs.take q) / 5) ((os ++ (wE 5 r m (bs.take q)).map (Lat a)).map bv) ∧ Blk wr b 72 (wcells a (wR 5 r m (bs.take q)) (wM 5 m (bs.take q))) ∧ But base b w wr) (fun _ i _ => bs.length - (intOf i).toNat)
  case atStart => exact ⟨0, by omega, rfl, HO0.out, HW0.out, But.refl _ _ _⟩
  case round =>
    obtain ⟨q, hq, rfl, hown, hblk, hbut⟩ := hrel
    by_cases hlt : q < bs.length
    · have htk : bs.take (q + 1) = bs.take q ++ [bs[q]] := take_snoc' bs q hlt
      have hst := w_step 5 r m (bs.take q) bs[q] (by omega) _ _ rfl rfl
      rw [← htk] at hst
      have HST := Lib.hid hst
      have hMk := wM_lt 5 m (bs.take q) (by omega)
      have hRk := Nat.lt_of_lt_of_le (wR_lt 5 r m (bs.take q)) (Nat.pow_le_pow_right (by omega) (Nat.le_of_lt hMk))
      have hTl : wT m (bs.take q) / 5 ≤ 8 * q + 8 := by
        have : wT m (bs.take q) ≤ 8 * q + 5 := by unfold wT; simp; omega
        omega
      have hRB : RB w base A bs.length bs := HR.out.mono hB
      obtain ⟨g, o, hA, hg, hcell⟩ := (hRB.but hbut hne).2 (by omega)
      subst hA
      have hx := hcell q hlt
      have hxb : bs[q].toNat < 256 := UInt8.toNat_lt _
      clear hcell hRB hst htk
      have hEl := wE_length 5 r m (bs.take q)
      have hEl' := wE_length 5 r m (bs.take (q + 1))
      have HEL := Lib.hid hEl
      have HEL' := Lib.hid hEl'
      clear hEl hEl'
      generalize bs[q] = x at *
      generalize wR 5 r m (bs.take q) = R0 at *
      generalize wM 5 m (bs.take q) = M0 at *
      generalize wE 5 r m (bs.take q) = E0 at *
      generalize wT m (bs.take q) / 5 = L0 at *
      have hR0 : R0 < 64 := by simp at hRk; omega
      have hor := or_u32 R0 x.toNat (by omega) hxb
      have hgb : g ≠ b := hne g o rfl (by omega)
      have c0 := hblk.cell 0
      have c1 := hblk.cell 1
      have c2 := hblk.cell 2
      have f1 := hblk.frozen 1
      have f2 := hblk.frozen 2
      simp at c0 c1 c2
      have HBLK := Lib.hid hblk
      clear hblk hRk
      go_wp2
      go_region
      go_wp2
      clear c0 c1 c2 f1 f2 hx hor
      obtain ⟨R, hR⟩ : ∃ R : Nat, R = R0 * 256 + x.toNat := ⟨_, rfl⟩
      obtain ⟨T, hT⟩ : ∃ T : Nat, T = M0 + 8 := ⟨_, rfl⟩
      have HST2 := HST.out
      rw [← hR, ← hT] at HST2
      obtain ⟨hRT, hE, hR', hM'⟩ := HST2
      have HE := Lib.hid hE
      have HR' := Lib.hid hR'
      have HM' := Lib.hid hM'
      clear hE hR' hM' HST
      have hRb : R < 16384 := by omega
      have hTb : T < 5 + 8 := by omega
      have hT8 : 8 ≤ T := by omega
      generalize hW : ((wr.setCell ⟨b, 1, none⟩ (Value.int .u32 ((R0 : Int) * 256 + (x.toNat : Int)))).setCell ⟨b, 2, none⟩ (Value.int .i64 ((M0 : Int) + 8))).drew = W
      have hWb : Blk W b 72 (wcells a R T) := by
        have := ((HBLK.out.set1 1 (Value.int .u32 ((R0 : Int) * 256 + (x.toNat : Int)))).set1 2 (Value.int .i64 ((M0 : Int) + 8))).drew
        rw [hW] at this
        have e1 : ((R0 * 256 + x.toNat : Nat) : Int) = (R0 : Int) * 256 + (x.toNat : Int) := by omega
        have e2 : ((M0 + 8 : Nat) : Int) = (M0 : Int) + 8 := by omega
        rw [hR, hT]
        unfold wcells
        rw [e1, e2]
        simpa using this
      have hWbut : But base b w W := by
        rw [← hW]
        exact ((hbut.setCell (.inl rfl) _).setCell (.inl rfl) _).drew
      have hWown : W.ownsRow base 5 1 u1 (N0 + L0) ((os ++ E0.map (Lat a)).map bv) := by
        rw [← hW]
        exact (ownsRow_setCell_below (ownsRow_setCell_below hown hbb _) hbb _).drew
      have HWO := Lib.hid hWown
      have HWB := Lib.hid hWb
      have HWN := Lib.hid hWbut
      clear hW hWb hWbut hWown hown hbut HBLK
      have HRT := Lib.hid hRT
      have HRd := Lib.hid hR
      have HTd := Lib.hid hT
      clear hRT hR hT
      have hsz0 := HWN.out.size
      go_loopw [1] (fun out wi => ∃ j : Nat, j * 5 ≤ T ∧ wi.ownsRow base 5 1 out (N0 + L0 + j) ((os ++ (E0 ++ digs (2 ^ 5) j (R / 2 ^ (T - j * 5))).map (Lat a)).map bv) ∧ Blk wi b 72 (wcells a R (T - j * 5)) ∧ But base b w wi) (fun _ wi => (intOf ((wi.cell? ⟨b, 2, none⟩).getD undef)).toNat)
      case atStart => exact ⟨0, by omega, by simpa [digs] using HWO.out, by simpa using HWB.out, HWN.out⟩
      case round =>
        obtain ⟨j, hj, hown, hblk, hbut⟩ := hrel
        have HD := Lib.hid (w_letter 5 R T j)
        obtain ⟨t, ht⟩ : ∃ t : Nat, t = T - j * 5 := ⟨_, rfl⟩
        rw [← ht] at hown hblk
        have htT : t ≤ T := by omega
        by_cases hge : 5 ≤ t
        · obtain ⟨s, rfl⟩ : ∃ s, t = s + 5 := ⟨t - 5, by omega⟩
          have c0 := hblk.cell 0
          have c1 := hblk.cell 1
          have c2 := hblk.cell 2
          have f2 := hblk.frozen 2
          simp at c0 c1 c2
          have HBLK := Lib.hid hblk
          have HTJ := Lib.hid ht
          have HC2 := Lib.hid c2
          clear hblk ht
          go_wp2
          clear c0 c1 c2 f2
          generalize hW : wr.setCell ⟨b, 2, none⟩ (Value.int .i64 (s : Int)) = W2
          have hWb : Blk W2 b 72 (wcells a R s) := by
            have := HBLK.out.set1 2 (Value.int .i64 (s : Int))
            rw [hW] at this
            simpa using this
          have hWbut : But base b w W2 := by
            rw [← hW]
            exact hbut.setCell (.inl rfl) _
          have hWown : W2.ownsRow base 5 1 u1 (N0 + L0 + j) ((os ++ (E0 ++ digs (2 ^ 5) j (R / 2 ^ (s + 5))).map (Lat a)).map bv) := by
            rw [← hW]
            exact ownsRow_setCell_below hown hbb _
          have HBN := Lib.hid hWbut
          clear hW hown hbut HBLK hWbut
          have c0 := hWb.cell 0
          have c1 := hWb.cell 1
          have c2 := hWb.cell 2
          simp at c0 c1 c2
          have hnb : some b ≠ u1.ownBlock := (own_apart hWown hWb (by decide)).symm
          have hbW : b < W2.heap.size := hWb.lt
          have hbW' := HBN.out.size
          have HWOW := Lib.hid hWown
          have HWBW := Lib.hid hWb
          clear hWown hWb
          have hand : bits .and .u32 ((R : Int) / 2 ^ s) (IntKind.u32.wrap (IntKind.u32.wrap (2 ^ 5) - 1)) = ((R / 2 ^ s % 2 ^ 5 : Nat) : Int) := by
            have e1 : IntKind.u32.wrap (IntKind.u32.wrap (2 ^ 5) - 1) = ((2 ^ 5 - 1 : Nat) : Int) := by decide
            rw [e1, ← and_u32 _ 5 (Nat.lt_of_le_of_lt (Nat.div_le_self _ _) (by omega)) (by omega)]
            congr 1
          have hxl : R / 2 ^ s % 2 ^ 5 < 2 ^ 5 := Nat.mod_lt _ (Nat.two_pow_pos _)
          have hsz : (Ltr a).size = 2 ^ 5 := ltr_size a 5 K (by omega)
          have hget : ∀ hh, (Ltr a)[R / 2 ^ s % 2 ^ 5]'hh = Lat a (R / 2 ^ s % 2 ^ 5) := fun hh => ltr_get a _ hh
          have hxi : ((R / 2 ^ s % 2 ^ 5 : Nat) : Int) < ((Ltr a).size : Int) := by rw [hsz]; omega
          have hdd := HD.out (by rw [Nat.succ_mul]; have := HTJ.out; omega)
          have e3 : T - (j + 1) * 5 = s := by have := HTJ.out; rw [Nat.succ_mul]; omega
          have e4 : T - j * 5 = s + 5 := HTJ.out.symm
          rw [e3, e4] at hdd
          have HDD := Lib.hid hdd
          have E3 := Lib.hid e3
          clear hdd e3 e4 hsz
          generalize R / 2 ^ s % 2 ^ 5 = x0 at *
          clear hxl
          simp only [Nat.reducePow, Int.reducePow] at hand
          go_region_held3 (fun w' => w'.cell? ⟨b, 0, none⟩ = some (.int .u8 a) ∧ w'.cell? ⟨b, 1, none⟩ = some (.int .u32 R) ∧ w'.cell? ⟨b, 2, none⟩ = some (.int .i64 s))
            (first
              | (go_keep; done)
              | (refine ⟨?_, ?_, ?_⟩ <;> (rw [hg1.cell_far _ (by simp; omega) hnb]; go_keep)))
            (first
              | (go_at_call 40; refine (letters_any _ _).mono ?_; rintro e w' ⟨rfl, rfl⟩)
              | (refine step_push (by rfl) (.tmp 55) (.tmp 75) (by rfl) base u1 (N0 + L0 + j) (os ++ (E0 ++ digs (2 ^ 5) j (R / 2 ^ (s + 5))).map (Lat a)) (by rfl) (HWOW.out.drew.alloc _) _ _ (by rfl) (Lat a x0) (by simp) (by omega) (by simp; omega) ?_; intro g' cap' w1 hown1 hg1 hat1 hlt1))
          have hl : os ++ (E0 ++ digs (2 ^ 5) (j + 1) (R / 2 ^ (T - (j + 1) * 5))).map (Lat a) = os ++ (E0 ++ digs (2 ^ 5) j (R / 2 ^ (s + 5))).map (Lat a) ++ [Lat a x0] := by
            rw [E3.out, HDD.out]; simp
          have hb1 : Blk w1 b 72 (wcells a R s) := ((HWBW.out.alloc _).drew).grown hg1 hnb
          have hn1 : But base b w w1 := ((HBN.out.alloc (by omega) _).drew).grown hg1 (by simp; omega) (fun k' hk' => (HWOW.out.lt k' hk').1)
          have c2' := hb1.cell 2
          simp at c2'
          go_wp2
          go_roundw
          case rel => exact ⟨j + 1, by have := HTJ.out; rw [Nat.succ_mul]; omega, by rw [hl]; exact hown1, by rw [E3.out]; exact hb1, hn1⟩
          case measure => rw [HC2.out, c2']; simp [intOf]; omega
        · have c0 := hblk.cell 0
          have c1 := hblk.cell 1
          have c2 := hblk.cell 2
          have f1 := hblk.frozen 1
          simp at c0 c1 c2
          have HBLK := Lib.hid hblk
          have hand : bits .and .u32 (R : Int) ((2 ^ t - 1) % 4294967296) = ((R % 2 ^ t : Nat) : Int) := by
            have hp : 2 ^ t ≤ 2 ^ 6 := Nat.pow_le_pow_right (by omega) (by omega)
            have hp1 := Nat.two_pow_pos t
            have e1 : ((2 : Int) ^ t - 1) % 4294967296 = ((2 ^ t - 1 : Nat) : Int) := by
              have e0 : (2 : Int) ^ t = ((2 ^ t : Nat) : Int) := by simp
              rw [e0]; omega
            rw [e1, and_u32 R t (by omega) (by omega)]
          have hjT : j = T / 5 := by omega
          have htT' : t = T % 5 := by omega
          have HJT := Lib.hid hjT
          have HTT := Lib.hid htT'
          have HTJ := Lib.hid ht
          have hfin : (wE 5 r m (bs.take (q + 1))) = E0 ++ digs (2 ^ 5) j (R / 2 ^ t) := by rw [HE.out, HJT.out, HTT.out]
          have hlen : wT m (bs.take (q + 1)) / 5 = L0 + j := by
            rw [← HEL'.out, hfin, List.length_append, digs_length, HEL.out]
          have HFIN := Lib.hid hfin
          have HLEN := Lib.hid hlen
          clear hblk ht hjT htT' hfin hlen
          go_wp2
          go_region
          have hb1 : Blk (wr.setCell ⟨b, 1, none⟩ (.int .u32 ((R % 2 ^ t : Nat) : Int))).drew b 72 (wcells a (wR 5 r m (bs.take (q + 1))) (wM 5 m (bs.take (q + 1)))) := by
            have := (HBLK.out.set1 1 (Value.int .u32 ((R % 2 ^ t : Nat) : Int))).drew
            rw [wcells_set1] at this
            rw [HR'.out, HM'.out, ← HTT.out]
            exact this
          have HB1 := Lib.hid hb1
          clear hb1
          go_wp2
          go_roundw
          case rel =>
            refine ⟨q + 1, by omega, by go_num, ?_, HB1.out, (hbut.setCell (.inl rfl) _).drew⟩
            rw [HLEN.out, HFIN.out, ← Nat.add_assoc]
            exact (ownsRow_setCell_below hown hbb _).drew
          case measure => simp [intOf]; omega
    · obtain rfl : q = bs.length := by omega
      rw [List.take_length] at hown hblk
      clear hq hlt
      go_wp2
      go_ret
      exact ⟨_, rfl, hown, hblk, hbut⟩

set_option maxRecDepth 100000 in
set_option maxHeartbeats 2000000 in
theorem put_6 (a : Int) (r m : Nat) (b base : Nat) (A : Option Addr) (n c B : Nat) (bs : List UInt8) (v : Value) (N0 : Nat) (os : List UInt8) (w : World)
    (h : RB w B A n bs) (hne : ∀ g o, A = some ⟨g, o, none⟩ → 0 < n → g ≠ b) (hB : B ≤ base) (hbb : b < base) (hbase : base ≤ w.heap.size)
    (hblk : Blk w b 72 (wcells a r m)) (hm : m < 6) (hr : r < 2 ^ m) (hown : w.ownsRow base 5 1 v N0 (os.map bv))
    (hk : Bt a = (6 : Nat)) (hn : n ≤ 1000000000) (hN : N0 ≤ 1000000000000) :
    Calls Try.prog 37 #[.pointer (some ⟨b, 0, none⟩), v, .slice A n c] w (PutPost b base a 6 r m N0 os bs w) := by
  have hl := h.1
  subst hl
  have K : Hid (Bt a = ((6 : Nat) : Int)) := hk
  have HR := Lib.hid h
  have hc0 := hblk.cell 0
  simp at hc0
  clear h hk
  go_enter Try.func37, Try.ntmps37
  go_wp2_with (first
    | (go_at_call 35; refine (bits_k _ _ _ K).mono ?_; rintro e w' ⟨rfl, rfl⟩))
  clear hc0
  have hw0 : Blk w b 72 (wcells a (wR 6 r m []) (wM 6 m [])) := by rw [wR_nil _ _ _ hm hr, wM_nil _ _ hm]; exact hblk
  have HW0 := Lib.hid hw0
  have ho0 : w.ownsRow base 5 1 v (N0 + wT m [] / 6) ((os ++ (wE 6 r m []).map (Lat a)).map bv) := by
    rw [wE_nil _ _ _ hm]; simpa [wT, Nat.div_eq_of_lt hm] using hown
  have HO0 := Lib.hid ho0
  clear hw0 ho0 hown hblk
  go_loopw [1, 8] (fun out i wr => ∃ q : Nat, q ≤ bs.length ∧ i = .int .i64 q ∧ wr.ownsRow base 5 1 out (N0 + wT m (bs.take q) / 6) ((os ++ (wE 6 r m (bs.take q)).map (Lat a)).map bv) ∧ Blk wr b 72 (wcells a (wR 6 r m (bs.take q)) (wM 6 m (bs.take q))) ∧ But base b w wr) (fun _ i _ => bs.length - (intOf i).toNat)
  case atStart => exact ⟨0, by omega, rfl, HO0.out, HW0.out, But.refl _ _ _⟩
  case round =>
    obtain ⟨q, hq, rfl, hown, hblk, hbut⟩ := hrel
    by_cases hlt : q < bs.length
    · have htk : bs.take (q + 1) = bs.take q ++ [bs[q]] := take_snoc' bs q hlt
      have hst := w_step 6 r m (bs.take q) bs[q] (by omega) _ _ rfl rfl
      rw [← htk] at hst
      have HST := Lib.hid hst
      have hMk := wM_lt 6 m (bs.take q) (by omega)
      have hRk := Nat.lt_of_lt_of_le (wR_lt 6 r m (bs.take q)) (Nat.pow_le_pow_right (by omega) (Nat.le_of_lt hMk))
      have hTl : wT m (bs.take q) / 6 ≤ 8 * q + 8 := by
        have : wT m (bs.take q) ≤ 8 * q + 6 := by unfold wT; simp; omega
        omega
      have hRB : RB w base A bs.length bs := HR.out.mono hB
      obtain ⟨g, o, hA, hg, hcell⟩ := (hRB.but hbut hne).2 (by omega)
      subst hA
      have hx := hcell q hlt
      have hxb : bs[q].toNat < 256 := UInt8.toNat_lt _
      clear hcell hRB hst htk
      have hEl := wE_length 6 r m (bs.take q)
      have hEl' := wE_length 6 r m (bs.take (q + 1))
      have HEL := Lib.hid hEl
      have HEL' := Lib.hid hEl'
      clear hEl hEl'
      generalize bs[q] = x at *
      generalize wR 6 r m (bs.take q) = R0 at *
      generalize wM 6 m (bs.take q) = M0 at *
      generalize wE 6 r m (bs.take q) = E0 at *
      generalize wT m (bs.take q) / 6 = L0 at *
      have hR0 : R0 < 64 := by simp at hRk; omega
      have hor := or_u32 R0 x.toNat (by omega) hxb
      have hgb : g ≠ b := hne g o rfl (by omega)
      have c0 := hblk.cell 0
      have c1 := hblk.cell 1
      have c2 := hblk.cell 2
      have f1 := hblk.frozen 1
      have f2 := hblk.frozen 2
      simp at c0 c1 c2
      have HBLK := Lib.hid hblk
      clear hblk hRk
      go_wp2
      go_region
      go_wp2
      clear c0 c1 c2 f1 f2 hx hor
      obtain ⟨R, hR⟩ : ∃ R : Nat, R = R0 * 256 + x.toNat := ⟨_, rfl⟩
      obtain ⟨T, hT⟩ : ∃ T : Nat, T = M0 + 8 := ⟨_, rfl⟩
      have HST2 := HST.out
      rw [← hR, ← hT] at HST2
      obtain ⟨hRT, hE, hR', hM'⟩ := HST2
      have HE := Lib.hid hE
      have HR' := Lib.hid hR'
      have HM' := Lib.hid hM'
      clear hE hR' hM' HST
      have hRb : R < 16384 := by omega
      have hTb : T < 6 + 8 := by omega
      have hT8 : 8 ≤ T := by omega
      generalize hW : ((wr.setCell ⟨b, 1, none⟩ (Value.int .u32 ((R0 : Int) * 256 + (x.toNat : Int)))).setCell ⟨b, 2, none⟩ (Value.int .i64 ((M0 : Int) + 8))).drew = W
      have hWb : Blk W b 72 (wcells a R T) := by
        have := ((HBLK.out.set1 1 (Value.int .u32 ((R0 : Int) * 256 + (x.toNat : Int)))).set1 2 (Value.int .i64 ((M0 : Int) + 8))).drew
        rw [hW] at this
        have e1 : ((R0 * 256 + x.toNat : Nat) : Int) = (R0 : Int) * 256 + (x.toNat : Int) := by omega
        have e2 : ((M0 + 8 : Nat) : Int) = (M0 : Int) + 8 := by omega
        rw [hR, hT]
        unfold wcells
        rw [e1, e2]
        simpa using this
      have hWbut : But base b w W := by
        rw [← hW]
        exact ((hbut.setCell (.inl rfl) _).setCell (.inl rfl) _).drew
      have hWown : W.ownsRow base 5 1 u1 (N0 + L0) ((os ++ E0.map (Lat a)).map bv) := by
        rw [← hW]
        exact (ownsRow_setCell_below (ownsRow_setCell_below hown hbb _) hbb _).drew
      have HWO := Lib.hid hWown
      have HWB := Lib.hid hWb
      have HWN := Lib.hid hWbut
      clear hW hWb hWbut hWown hown hbut HBLK
      have HRT := Lib.hid hRT
      have HRd := Lib.hid hR
      have HTd := Lib.hid hT
      clear hRT hR hT
      have hsz0 := HWN.out.size
      go_loopw [1] (fun out wi => ∃ j : Nat, j * 6 ≤ T ∧ wi.ownsRow base 5 1 out (N0 + L0 + j) ((os ++ (E0 ++ digs (2 ^ 6) j (R / 2 ^ (T - j * 6))).map (Lat a)).map bv) ∧ Blk wi b 72 (wcells a R (T - j * 6)) ∧ But base b w wi) (fun _ wi => (intOf ((wi.cell? ⟨b, 2, none⟩).getD undef)).toNat)
      case atStart => exact ⟨0, by omega, by simpa [digs] using HWO.out, by simpa using HWB.out, HWN.out⟩
      case round =>
        obtain ⟨j, hj, hown, hblk, hbut⟩ := hrel
        have HD := Lib.hid (w_letter 6 R T j)
        obtain ⟨t, ht⟩ : ∃ t : Nat, t = T - j * 6 := ⟨_, rfl⟩
        rw [← ht] at hown hblk
        have htT : t ≤ T := by omega
        by_cases hge : 6 ≤ t
        · obtain ⟨s, rfl⟩ : ∃ s, t = s + 6 := ⟨t - 6, by omega⟩
          have c0 := hblk.cell 0
          have c1 := hblk.cell 1
          have c2 := hblk.cell 2
          have f2 := hblk.frozen 2
          simp at c0 c1 c2
          have HBLK := Lib.hid hblk
          have HTJ := Lib.hid ht
          have HC2 := Lib.hid c2
          clear hblk ht
          go_wp2
          clear c0 c1 c2 f2
          generalize hW : wr.setCell ⟨b, 2, none⟩ (Value.int .i64 (s : Int)) = W2
          have hWb : Blk W2 b 72 (wcells a R s) := by
            have := HBLK.out.set1 2 (Value.int .i64 (s : Int))
            rw [hW] at this
            simpa using this
          have hWbut : But base b w W2 := by
            rw [← hW]
            exact hbut.setCell (.inl rfl) _
          have hWown : W2.ownsRow base 5 1 u1 (N0 + L0 + j) ((os ++ (E0 ++ digs (2 ^ 6) j (R / 2 ^ (s + 6))).map (Lat a)).map bv) := by
            rw [← hW]
            exact ownsRow_setCell_below hown hbb _
          have HBN := Lib.hid hWbut
          clear hW hown hbut HBLK hWbut
          have c0 := hWb.cell 0
          have c1 := hWb.cell 1
          have c2 := hWb.cell 2
          simp at c0 c1 c2
          have hnb : some b ≠ u1.ownBlock := (own_apart hWown hWb (by decide)).symm
          have hbW : b < W2.heap.size := hWb.lt
          have hbW' := HBN.out.size
          have HWOW := Lib.hid hWown
          have HWBW := Lib.hid hWb
          clear hWown hWb
          have hand : bits .and .u32 ((R : Int) / 2 ^ s) (IntKind.u32.wrap (IntKind.u32.wrap (2 ^ 6) - 1)) = ((R / 2 ^ s % 2 ^ 6 : Nat) : Int) := by
            have e1 : IntKind.u32.wrap (IntKind.u32.wrap (2 ^ 6) - 1) = ((2 ^ 6 - 1 : Nat) : Int) := by decide
            rw [e1, ← and_u32 _ 6 (Nat.lt_of_le_of_lt (Nat.div_le_self _ _) (by omega)) (by omega)]
            congr 1
          have hxl : R / 2 ^ s % 2 ^ 6 < 2 ^ 6 := Nat.mod_lt _ (Nat.two_pow_pos _)
          have hsz : (Ltr a).size = 2 ^ 6 := ltr_size a 6 K (by omega)
          have hget : ∀ hh, (Ltr a)[R / 2 ^ s % 2 ^ 6]'hh = Lat a (R / 2 ^ s % 2 ^ 6) := fun hh => ltr_get a _ hh
          have hxi : ((R / 2 ^ s % 2 ^ 6 : Nat) : Int) < ((Ltr a).size : Int) := by rw [hsz]; omega
          have hdd := HD.out (by rw [Nat.succ_mul]; have := HTJ.out; omega)
          have e3 : T - (j + 1) * 6 = s := by have := HTJ.out; rw [Nat.succ_mul]; omega
          have e4 : T - j * 6 = s + 6 := HTJ.out.symm
          rw [e3, e4] at hdd
          have HDD := Lib.hid hdd
          have E3 := Lib.hid e3
          clear hdd e3 e4 hsz
          generalize R / 2 ^ s % 2 ^ 6 = x0 at *
          clear hxl
          simp only [Nat.reducePow, Int.reducePow] at hand
          go_region_held3 (fun w' => w'.cell? ⟨b, 0, none⟩ = some (.int .u8 a) ∧ w'.cell? ⟨b, 1, none⟩ = some (.int .u32 R) ∧ w'.cell? ⟨b, 2, none⟩ = some (.int .i64 s))
            (first
              | (go_keep; done)
              | (refine ⟨?_, ?_, ?_⟩ <;> (rw [hg1.cell_far _ (by simp; omega) hnb]; go_keep)))
            (first
              | (go_at_call 40; refine (letters_any _ _).mono ?_; rintro e w' ⟨rfl, rfl⟩)
              | (refine step_push (by rfl) (.tmp 55) (.tmp 75) (by rfl) base u1 (N0 + L0 + j) (os ++ (E0 ++ digs (2 ^ 6) j (R / 2 ^ (s + 6))).map (Lat a)) (by rfl) (HWOW.out.drew.alloc _) _ _ (by rfl) (Lat a x0) (by simp) (by omega) (by simp; omega) ?_; intro g' cap' w1 hown1 hg1 hat1 hlt1))
          have hl : os ++ (E0 ++ digs (2 ^ 6) (j + 1) (R / 2 ^ (T - (j + 1) * 6))).map (Lat a) = os ++ (E0 ++ digs (2 ^ 6) j (R / 2 ^ (s + 6))).map (Lat a) ++ [Lat a x0] := by
            rw [E3.out, HDD.out]; simp
          have hb1 : Blk w1 b 72 (wcells a R s) := ((HWBW.out.alloc _).drew).grown hg1 hnb
          have hn1 : But base b w w1 := ((HBN.out.alloc (by omega) _).drew).grown hg1 (by simp; omega) (fun k' hk' => (HWOW.out.lt k' hk').1)
          have c2' := hb1.cell 2
          simp at c2'
          go_wp2
          go_roundw
          case rel => exact ⟨j + 1, by have := HTJ.out; rw [Nat.succ_mul]; omega, by rw [hl]; exact hown1, by rw [E3.out]; exact hb1, hn1⟩
          case measure => rw [HC2.out, c2']; simp [intOf]; omega
        · have c0 := hblk.cell 0
          have c1 := hblk.cell 1
          have c2 := hblk.cell 2
          have f1 := hblk.frozen 1
          simp at c0 c1 c2
          have HBLK := Lib.hid hblk
          have hand : bits .and .u32 (R : Int) ((2 ^ t - 1) % 4294967296) = ((R % 2 ^ t : Nat) : Int) := by
            have hp : 2 ^ t ≤ 2 ^ 6 := Nat.pow_le_pow_right (by omega) (by omega)
            have hp1 := Nat.two_pow_pos t
            have e1 : ((2 : Int) ^ t - 1) % 4294967296 = ((2 ^ t - 1 : Nat) : Int) := by
              have e0 : (2 : Int) ^ t = ((2 ^ t : Nat) : Int) := by simp
              rw [e0]; omega
            rw [e1, and_u32 R t (by omega) (by omega)]
          have hjT : j = T / 6 := by omega
          have htT' : t = T % 6 := by omega
          have HJT := Lib.hid hjT
          have HTT := Lib.hid htT'
          have HTJ := Lib.hid ht
          have hfin : (wE 6 r m (bs.take (q + 1))) = E0 ++ digs (2 ^ 6) j (R / 2 ^ t) := by rw [HE.out, HJT.out, HTT.out]
          have hlen : wT m (bs.take (q + 1)) / 6 = L0 + j := by
            rw [← HEL'.out, hfin, List.length_append, digs_length, HEL.out]
          have HFIN := Lib.hid hfin
          have HLEN := Lib.hid hlen
          clear hblk ht hjT htT' hfin hlen
          go_wp2
          go_region
          have hb1 : Blk (wr.setCell ⟨b, 1, none⟩ (.int .u32 ((R % 2 ^ t : Nat) : Int))).drew b 72 (wcells a (wR 6 r m (bs.take (q + 1))) (wM 6 m (bs.take (q + 1)))) := by
            have := (HBLK.out.set1 1 (Value.int .u32 ((R % 2 ^ t : Nat) : Int))).drew
            rw [wcells_set1] at this
            rw [HR'.out, HM'.out, ← HTT.out]
            exact this
          have HB1 := Lib.hid hb1
          clear hb1
          go_wp2
          go_roundw
          case rel =>
            refine ⟨q + 1, by omega, by go_num, ?_, HB1.out, (hbut.setCell (.inl rfl) _).drew⟩
            rw [HLEN.out, HFIN.out, ← Nat.add_assoc]
            exact (ownsRow_setCell_below hown hbb _).drew
          case measure => simp [intOf]; omega
    · obtain rfl : q = bs.length := by omega
      rw [List.take_length] at hown hblk
      clear hq hlt
      go_wp2
      go_ret
      exact ⟨_, rfl, hown, hblk, hbut⟩

theorem put_k (a : Int) (k r m : Nat) (b base : Nat) (A : Option Addr) (n c B : Nat) (bs : List UInt8) (v : Value) (N0 : Nat) (os : List UInt8) (w : World)
    (h : RB w B A n bs) (hne : ∀ g o, A = some ⟨g, o, none⟩ → 0 < n → g ≠ b) (hB : B ≤ base) (hbb : b < base) (hbase : base ≤ w.heap.size)
    (hblk : Blk w b 72 (wcells a r m)) (hm : m < k) (hr : r < 2 ^ m) (hown : w.ownsRow base 5 1 v N0 (os.map bv))
    (hk : Bt a = k) (h0 : k = 4 ∨ k = 5 ∨ k = 6) (hn : n ≤ 1000000000) (hN : N0 ≤ 1000000000000) :
    Calls Try.prog 37 #[.pointer (some ⟨b, 0, none⟩), v, .slice A n c] w (PutPost b base a k r m N0 os bs w) := by
  rcases h0 with rfl | rfl | rfl
  · exact put_4 a r m b base A n c B bs v N0 os w h hne hB hbb hbase hblk hm hr hown hk hn hN
  · exact put_5 a r m b base A n c B bs v N0 os w h hne hB hbb hbase hblk hm hr hown hk hn hN
  · exact put_6 a r m b base A n c B bs v N0 os w h hne hB hbb hbase hblk hm hr hown hk hn hN
end Go.Proofs.Ytdlplmflimleaaa
