/- The walk of DigitsFewest. -/
import Derived.Test.YtnajondbdeclmaaGreatDoorDigZ
namespace Go.Proofs.YtnajondbdeclmaaGreatDoor.digitsFewest
open Go.RowKit
attribute [local go_sem] SGives_value SGives_skip SGives_enter
set_option linter.unusedSimpArgs false
set_option linter.unusedVariables false

/-- The row of digits that is made of bytes. -/
def rowS (bs : List UInt8) : List UInt8 := bs.map fun x => UInt8.ofNat (48 + x.toNat % 10)
theorem rowS_snoc (bs : List UInt8) (k : Nat) (h : k < bs.length) : rowS (bs.take (k + 1)) = rowS (bs.take k) ++ [UInt8.ofNat (48 + bs[k].toNat % 10)] := by
  unfold rowS
  rw [List.take_succ_eq_append_getElem h, List.map_append]
  rfl
theorem rowS_digits (bs : List UInt8) : ∀ c ∈ rowS bs, isD c = true := by
  intro c hc
  unfold rowS at hc
  obtain ⟨x, _, rfl⟩ := List.mem_map.1 hc
  unfold isD
  have : (UInt8.ofNat (48 + x.toNat % 10)).toNat = 48 + x.toNat % 10 := by rw [UInt8.toNat_ofNat']; exact Nat.mod_eq_of_lt (by omega)
  rw [this]
  exact decide_eq_true (by omega)
theorem byte_str (v : Nat) (hv : v < 256) (w : World) (c : Nat) : (convert 66 9 (.slice (some ⟨w.heap.size, 0, none⟩) 1 c)).run Tryz.prog (w.alloc (.cells #[.int .u8 (v : Int)] 5)) = .ok (.string ⟨#[UInt8.ofNat v]⟩) (w.alloc (.cells #[.int .u8 (v : Int)] 5)) := by
  have hb : (UInt8.ofNat v).toNat = v := by simp; omega
  have h : RV (w.alloc (.cells #[.int .u8 (v : Int)] 5)) (w.heap.size + 1) (some ⟨w.heap.size, 0, none⟩) 1 ([UInt8.ofNat v].map bv) := by
    have := RV.fresh w 5 ([UInt8.ofNat v].map bv)
    simp only [List.map_cons, List.map_nil, bv, hb] at this ⊢
    exact this
  exact str_of_RB h.rb c

set_option maxRecDepth 100000 in
set_option maxHeartbeats 4000000 in
theorem few_walk (n len cap : Nat) (A : Option Addr) (bs : List UInt8) (e k : Int) (d f t : List UInt8) (cl ri ins : Bool) (w : World)
    (hRB : RB w w.heap.size A len bs) (hlen : len ≤ 140737488351232)
    (hsh : (IntKind.u64.wrap ((n : Int) * 2) == 0) = false)
    (HF : Hid (∀ W, Calls Tryz.prog 33 #[.int .u64 (n : Int)] W fun e w' => e = .returned (.bool true) ∧ W = w'))
    (HS : Hid (∀ W, Calls Tryz.prog 13 #[.int .u64 (n : Int)] W fun e w' => e = .returned (.tuple #[.string ⟨d.toArray⟩, .int .i64 k, .nilIface]) ∧ Below W.heap.size W w'))
    (HA : Hid (∀ W, Calls Tryz.prog 22 #[.int .u64 (n : Int)] W fun e w' => e = .returned (.tuple #[.agg #[.string ⟨f.toArray⟩, .string ⟨t.toArray⟩, .bool cl], .nilIface]) ∧ Below W.heap.size W w'))
    (HR : Hid (∀ W, Calls Tryz.prog 34 #[.string ⟨(rowS (bs.take 20)).toArray⟩] W fun e w' => e = .returned (.bool ri) ∧ W = w'))
    (HL : Hid (-400 ≤ e → e ≤ 400 → ∀ W, Below w.heap.size w W → Calls Tryz.prog 41 #[.string ⟨(rowS (bs.take 20)).toArray⟩, .int .i64 e] W fun r w' => r = .returned (.string ⟨(litL (rowS (bs.take 20)) e).toArray⟩) ∧ Below W.heap.size W w'))
    (HL2 : Hid (∀ W, Below w.heap.size w W → Calls Tryz.prog 41 #[.string ⟨d.toArray⟩, .int .i64 k] W fun r w' => r = .returned (.string ⟨(litL d k).toArray⟩) ∧ Below W.heap.size W w'))
    (HI : Hid (-400 ≤ e → e ≤ 400 → ri = true → (rowS (bs.take 20)).length ≤ d.length → ∀ W, Calls Tryz.prog 40 #[.string ⟨(litL (rowS (bs.take 20)) e).toArray⟩, .agg #[.string ⟨f.toArray⟩, .string ⟨t.toArray⟩, .bool cl]] W fun r w' => r = .returned (.bool ins) ∧ Below W.heap.size W w'))
    (HN : Hid (-400 ≤ e → e ≤ 400 → ri = true → ins = true → (rowS (bs.take 20)).length ≤ d.length → d.length ≤ (rowS (bs.take 20)).length ∧ ∀ W, Calls Tryz.prog 43 #[.int .u64 (n : Int), .string ⟨(litL (rowS (bs.take 20)) e).toArray⟩, .string ⟨(litL d k).toArray⟩] W fun r w' => r = .returned (.bool false) ∧ Below W.heap.size W w'))
    (HW : Hid (∀ W, Below w.heap.size w W → Calls Tryz.prog 16 #[] W fun e w' => e = .returned (.bool true) ∧ Below W.heap.size W w')) :
    Calls Tryz.prog 10 #[.int .u64 (n : Int), .slice A len cap, .int .i64 e] w fun e w' => e = .returned (.bool true) ∧ Below w.heap.size w w' := by
  have HRB := Lib.hid hRB
  have hlI : (len : Int) ≤ 140737488351232 := by omega
  clear hRB hlen
  have BB := Lib.hid (Below.refl w.heap.size w)
  go_enter Tryz.func10, Tryz.ntmps10
  go_wp2_with fail
  refine (HF.out _).mono ?_
  rintro e w0 ⟨rfl, rfl⟩
  go_wp2_with fail
  refine (HS.out _).mono ?_
  rintro e w1 ⟨rfl, hb⟩
  have BB := Lib.hid (keepb BB.out hb)
  clear hb
  go_wp2_with fail
  refine (HA.out _).mono ?_
  rintro e w2 ⟨rfl, hb⟩
  have hbk := keepb BB.out hb
  have BB := Lib.hid (hbk.alloc hbk.size (.cells #[.string ⟨f.toArray⟩, .string ⟨t.toArray⟩, .bool cl] 40))
  have B0 := Lib.hid (Blk.new w2 40 #[.string ⟨f.toArray⟩, .string ⟨t.toArray⟩, .bool cl])
  clear hb hbk
  have c0_0 := B0.out.cell 0
  have c0_1 := B0.out.cell 1
  have c0_2 := B0.out.cell 2
  go_wp2_with fail
  clear c0_0 c0_1 c0_2
  go_loopw [12, 13] (fun s12 s13 wr => ∃ j : Nat, j ≤ 20 ∧ j ≤ len ∧ s12 = .string ⟨(rowS (bs.take j)).toArray⟩ ∧ s13 = .int .i64 j ∧ Blk wr w2.heap.size 40 #[.string ⟨f.toArray⟩, .string ⟨t.toArray⟩, .bool cl] ∧ Below w.heap.size w wr) (fun _ s13 _ => len - (intOf s13).toNat)
  case atStart => exact ⟨0, by omega, Nat.zero_le _, rfl, rfl, B0.out, BB.out⟩
  case round =>
    obtain ⟨j, hj20, hjl, rfl, rfl, hblk, hbel⟩ := hrel
    obtain ⟨wi, rfl⟩ : ∃ wi : World, wi = wr := ⟨_, rfl⟩
    have HB := Lib.hid hblk
    have HE := Lib.hid hbel
    clear hblk hbel
    by_cases hgo : j < len ∧ j < 20
    · obtain ⟨hlt, hlt2⟩ := hgo
      have hjb : j < bs.length := by rw [HRB.out.1]; exact hlt
      obtain ⟨g, o, rfl, hg, hc⟩ := (HRB.out.below HE.out).2 (by omega)
      have cK := hc j hjb
      have HSN := Lib.hid (rowS_snoc bs j hjb)
      have hcat := sv_cat (rowS (bs.take j)) [UInt8.ofNat (48 + bs[j].toNat % 10)]
      have hll : (rowS (bs.take j)).length = j := by unfold rowS; rw [List.length_map, List.length_take]; omega
      have hlI2 : ((rowS (bs.take j)).length : Int) ≤ 20 := by omega
      have hx : bs[j].toNat < 256 := UInt8.toNat_lt _
      have t1 : decide ((j : Int) < len) = true := decide_eq_true (by omega)
      have t1' : decide (j < len) = true := decide_eq_true hlt
      have t2 : decide ((j : Int) < 20) = true := decide_eq_true (by omega)
      have t2' : decide (j < 20) = true := decide_eq_true hlt2
      obtain ⟨v, hv⟩ : ∃ v, 48 + bs[j].toNat % 10 = v := ⟨_, rfl⟩
      have kv : (48 : Int) + (bs[j].toNat : Int) % 10 = (v : Int) := by omega
      have hv256 : v < 256 := by omega
      have kw : IntKind.u8.wrap ((48 : Int) + (bs[j].toNat : Int) % 10) = (v : Int) := by rw [kv]; show (v : Int) % 256 = v; omega
      rw [hv] at HSN hcat
      have BS := byte_str v hv256
      clear kw
      go_wp2_with fail
      go_roundw
      case rel => exact ⟨j + 1, by omega, by omega, by rw [HSN.out], by go_num, HB.out.alloc _, HE.out.alloc HE.out.size _⟩
      case measure => simp [intOf]; omega
    · have hJ : bs.take j = bs.take 20 := by
        rcases Nat.lt_or_ge j 20 with h | h
        · have h2 : j = bs.length := by rw [HRB.out.1]; omega
          rw [List.take_of_length_le (by omega), List.take_of_length_le (by omega)]
        · rw [show j = 20 by omega]
      rw [hJ]
      have hsl : (rowS (bs.take 20)).length ≤ 20 := by unfold rowS; rw [List.length_map, List.length_take]; omega
      have hsI : ((rowS (bs.take 20)).length : Int) ≤ 20 := by omega
      generalize rowS (bs.take 20) = s at *
      clear hJ
      have hcase : (decide ((j : Int) < len) = false ∧ decide (j < len) = false) ∨ ((decide ((j : Int) < len) = true ∧ decide (j < len) = true) ∧ decide ((j : Int) < 20) = false ∧ decide (j < 20) = false) := by
        by_cases h : j < len
        · exact .inr ⟨⟨decide_eq_true (by omega), decide_eq_true h⟩, decide_eq_false (by omega), decide_eq_false (by omega)⟩
        · exact .inl ⟨decide_eq_false (by omega), decide_eq_false h⟩
      have hls : (ri = false) ∨ (ri = true ∧ d.length < s.length) ∨ (ri = true ∧ s.length ≤ d.length ∧ e < -400) ∨ (ri = true ∧ s.length ≤ d.length ∧ -400 ≤ e ∧ 400 < e) ∨ (ri = true ∧ s.length ≤ d.length ∧ -400 ≤ e ∧ e ≤ 400) := by
        cases ri
        · exact .inl rfl
        · rcases Nat.lt_or_ge d.length s.length with h | h
          · exact .inr (.inl ⟨rfl, h⟩)
          · rcases Int.lt_or_le e (-400) with h2 | h2
            · exact .inr (.inr (.inl ⟨rfl, h, h2⟩))
            · rcases Int.lt_or_le 400 e with h3 | h3
              · exact .inr (.inr (.inr (.inl ⟨rfl, h, h2, h3⟩)))
              · exact .inr (.inr (.inr (.inr ⟨rfl, h, h2, h3⟩)))
      have HLS := Lib.hid hls
      clear hls hgo hj20 hjl
      rcases hcase with ⟨q1, q2⟩ | ⟨⟨q1, q2⟩, q3, q4⟩
      all_goals
        go_upto_region 12 with fail
        clear q1 q2
        try clear q3 q4
        have BB := Lib.hid HE.out
        have B0 := Lib.hid HB.out
        rcases HLS.out with rfl | ⟨rfl, h1⟩ | ⟨rfl, h1, h2⟩ | ⟨rfl, h1, h2, h3⟩ | ⟨rfl, h1, h2, h3⟩
        · have c0_0 := B0.out.cell 0
          have c0_1 := B0.out.cell 1
          have c0_2 := B0.out.cell 2
          clear c0_0 c0_1 c0_2
          obtain ⟨S, SD⟩ : ∃ S : World → Prop, Go.RowKit.Hid (∀ w' : World, S w' ↔ (Blk w' w2.heap.size 40 #[.string ⟨f.toArray⟩, .string ⟨t.toArray⟩, .bool cl] ∧ Below w.heap.size w w')) := ⟨_, Lib.hid (fun _ => Iff.rfl)⟩
          refine wp_region_sure (S := S) (by kernel_rfl) (by kernel_rfl) ((SD.out _).2 (⟨B0.out, BB.out.drew⟩)) ?_
          repeat
            (first
              | (refine SureL.no (by rfl) ?_; simp only [Act.put, List.setIfInBounds_toArray, List.set_cons_zero, List.set_cons_succ])
              | (refine' SureL.yes (by rfl) (fun wS hS => ?_) ?_
                 rotate_left
                 · have hS' := (SD.out _).1 hS
                   obtain ⟨h0, hB⟩ := hS'
                   have e0_0 := h0.cell 0
                   have e0_1 := h0.cell 1
                   have e0_2 := h0.cell 2
                   go_simp
                   first
                     | exact ⟨rfl, hS⟩
                     | (go_at_call 34; refine (HR.out _).mono ?_; rintro e w' ⟨rfl, rfl⟩; exact ⟨rfl, hS⟩)
                 simp only [Act.put, List.setIfInBounds_toArray, List.set_cons_zero, List.set_cons_succ]))
          refine SureL.nil ?_
          intro wE hE
          obtain ⟨h0, hB⟩ := (SD.out _).1 hE
          have B0 := Lib.hid h0
          have BB := Lib.hid hB
          clear hE hB h0 S SD
          have c0_0 := B0.out.cell 0
          have c0_1 := B0.out.cell 1
          have c0_2 := B0.out.cell 2
          go_wp2_with fail
          refine (HW.out _ BB.out).mono ?_
          rintro e w6 ⟨rfl, hb⟩
          have HB6 := Lib.hid (keepb BB.out hb)
          clear hb c0_0 c0_1 c0_2
          go_wp2_with fail
          go_ret
          exact ⟨rfl, HB6.out⟩
        · have t1 : decide ((d.length : Int) < (s.length : Int)) = true := decide_eq_true (by omega)
          have t1' : decide (d.length < s.length) = true := decide_eq_true h1
          clear h1
          have c0_0 := B0.out.cell 0
          have c0_1 := B0.out.cell 1
          have c0_2 := B0.out.cell 2
          clear c0_0 c0_1 c0_2
          obtain ⟨S, SD⟩ : ∃ S : World → Prop, Go.RowKit.Hid (∀ w' : World, S w' ↔ (Blk w' w2.heap.size 40 #[.string ⟨f.toArray⟩, .string ⟨t.toArray⟩, .bool cl] ∧ Below w.heap.size w w')) := ⟨_, Lib.hid (fun _ => Iff.rfl)⟩
          refine wp_region_sure (S := S) (by kernel_rfl) (by kernel_rfl) ((SD.out _).2 (⟨B0.out, BB.out.drew⟩)) ?_
          repeat
            (first
              | (refine SureL.no (by rfl) ?_; simp only [Act.put, List.setIfInBounds_toArray, List.set_cons_zero, List.set_cons_succ])
              | (refine' SureL.yes (by rfl) (fun wS hS => ?_) ?_
                 rotate_left
                 · have hS' := (SD.out _).1 hS
                   obtain ⟨h0, hB⟩ := hS'
                   have e0_0 := h0.cell 0
                   have e0_1 := h0.cell 1
                   have e0_2 := h0.cell 2
                   go_simp
                   first
                     | exact ⟨rfl, hS⟩
                     | (go_at_call 34; refine (HR.out _).mono ?_; rintro e w' ⟨rfl, rfl⟩; exact ⟨rfl, hS⟩)
                 simp only [Act.put, List.setIfInBounds_toArray, List.set_cons_zero, List.set_cons_succ]))
          refine SureL.nil ?_
          intro wE hE
          obtain ⟨h0, hB⟩ := (SD.out _).1 hE
          have B0 := Lib.hid h0
          have BB := Lib.hid hB
          clear hE hB h0 S SD
          have c0_0 := B0.out.cell 0
          have c0_1 := B0.out.cell 1
          have c0_2 := B0.out.cell 2
          go_wp2_with fail
          refine (HW.out _ BB.out).mono ?_
          rintro e w6 ⟨rfl, hb⟩
          have HB6 := Lib.hid (keepb BB.out hb)
          clear hb c0_0 c0_1 c0_2
          go_wp2_with fail
          go_ret
          exact ⟨rfl, HB6.out⟩
        · have t1 : decide ((d.length : Int) < (s.length : Int)) = false := decide_eq_false (by omega)
          have t1' : decide (d.length < s.length) = false := decide_eq_false (by omega)
          have t2 : decide (e < -400) = true := decide_eq_true h2
          clear h1 h2
          have c0_0 := B0.out.cell 0
          have c0_1 := B0.out.cell 1
          have c0_2 := B0.out.cell 2
          clear c0_0 c0_1 c0_2
          obtain ⟨S, SD⟩ : ∃ S : World → Prop, Go.RowKit.Hid (∀ w' : World, S w' ↔ (Blk w' w2.heap.size 40 #[.string ⟨f.toArray⟩, .string ⟨t.toArray⟩, .bool cl] ∧ Below w.heap.size w w')) := ⟨_, Lib.hid (fun _ => Iff.rfl)⟩
          refine wp_region_sure (S := S) (by kernel_rfl) (by kernel_rfl) ((SD.out _).2 (⟨B0.out, BB.out.drew⟩)) ?_
          repeat
            (first
              | (refine SureL.no (by rfl) ?_; simp only [Act.put, List.setIfInBounds_toArray, List.set_cons_zero, List.set_cons_succ])
              | (refine' SureL.yes (by rfl) (fun wS hS => ?_) ?_
                 rotate_left
                 · have hS' := (SD.out _).1 hS
                   obtain ⟨h0, hB⟩ := hS'
                   have e0_0 := h0.cell 0
                   have e0_1 := h0.cell 1
                   have e0_2 := h0.cell 2
                   go_simp
                   first
                     | exact ⟨rfl, hS⟩
                     | (go_at_call 34; refine (HR.out _).mono ?_; rintro e w' ⟨rfl, rfl⟩; exact ⟨rfl, hS⟩)
                 simp only [Act.put, List.setIfInBounds_toArray, List.set_cons_zero, List.set_cons_succ]))
          refine SureL.nil ?_
          intro wE hE
          obtain ⟨h0, hB⟩ := (SD.out _).1 hE
          have B0 := Lib.hid h0
          have BB := Lib.hid hB
          clear hE hB h0 S SD
          have c0_0 := B0.out.cell 0
          have c0_1 := B0.out.cell 1
          have c0_2 := B0.out.cell 2
          go_wp2_with fail
          refine (HW.out _ BB.out).mono ?_
          rintro e w6 ⟨rfl, hb⟩
          have HB6 := Lib.hid (keepb BB.out hb)
          clear hb c0_0 c0_1 c0_2
          go_wp2_with fail
          go_ret
          exact ⟨rfl, HB6.out⟩
        · have t1 : decide ((d.length : Int) < (s.length : Int)) = false := decide_eq_false (by omega)
          have t1' : decide (d.length < s.length) = false := decide_eq_false (by omega)
          have t2 : decide (e < -400) = false := decide_eq_false (by omega)
          have t3 : decide (400 < e) = true := decide_eq_true h3
          clear h1 h2 h3
          have c0_0 := B0.out.cell 0
          have c0_1 := B0.out.cell 1
          have c0_2 := B0.out.cell 2
          clear c0_0 c0_1 c0_2
          obtain ⟨S, SD⟩ : ∃ S : World → Prop, Go.RowKit.Hid (∀ w' : World, S w' ↔ (Blk w' w2.heap.size 40 #[.string ⟨f.toArray⟩, .string ⟨t.toArray⟩, .bool cl] ∧ Below w.heap.size w w')) := ⟨_, Lib.hid (fun _ => Iff.rfl)⟩
          refine wp_region_sure (S := S) (by kernel_rfl) (by kernel_rfl) ((SD.out _).2 (⟨B0.out, BB.out.drew⟩)) ?_
          repeat
            (first
              | (refine SureL.no (by rfl) ?_; simp only [Act.put, List.setIfInBounds_toArray, List.set_cons_zero, List.set_cons_succ])
              | (refine' SureL.yes (by rfl) (fun wS hS => ?_) ?_
                 rotate_left
                 · have hS' := (SD.out _).1 hS
                   obtain ⟨h0, hB⟩ := hS'
                   have e0_0 := h0.cell 0
                   have e0_1 := h0.cell 1
                   have e0_2 := h0.cell 2
                   go_simp
                   first
                     | exact ⟨rfl, hS⟩
                     | (go_at_call 34; refine (HR.out _).mono ?_; rintro e w' ⟨rfl, rfl⟩; exact ⟨rfl, hS⟩)
                 simp only [Act.put, List.setIfInBounds_toArray, List.set_cons_zero, List.set_cons_succ]))
          refine SureL.nil ?_
          intro wE hE
          obtain ⟨h0, hB⟩ := (SD.out _).1 hE
          have B0 := Lib.hid h0
          have BB := Lib.hid hB
          clear hE hB h0 S SD
          have c0_0 := B0.out.cell 0
          have c0_1 := B0.out.cell 1
          have c0_2 := B0.out.cell 2
          go_wp2_with fail
          refine (HW.out _ BB.out).mono ?_
          rintro e w6 ⟨rfl, hb⟩
          have HB6 := Lib.hid (keepb BB.out hb)
          clear hb c0_0 c0_1 c0_2
          go_wp2_with fail
          go_ret
          exact ⟨rfl, HB6.out⟩
        · have t1 : decide ((d.length : Int) < (s.length : Int)) = false := decide_eq_false (by omega)
          have t1' : decide (d.length < s.length) = false := decide_eq_false (by omega)
          have t2 : decide (e < -400) = false := decide_eq_false (by omega)
          have t3 : decide (400 < e) = false := decide_eq_false (by omega)
          have HLL := Lib.hid (HL.out h2 h3)
          have HII := Lib.hid (HI.out h2 h3 rfl h1)
          have HNN := Lib.hid (HN.out h2 h3 rfl)
          have HH1 := Lib.hid h1
          clear h1 h2 h3
          cases ins with
          | false =>
            have c0_0 := B0.out.cell 0
            have c0_1 := B0.out.cell 1
            have c0_2 := B0.out.cell 2
            clear c0_0 c0_1 c0_2
            obtain ⟨S, SD⟩ : ∃ S : World → Prop, Go.RowKit.Hid (∀ w' : World, S w' ↔ (Blk w' w2.heap.size 40 #[.string ⟨f.toArray⟩, .string ⟨t.toArray⟩, .bool cl] ∧ Below w.heap.size w w')) := ⟨_, Lib.hid (fun _ => Iff.rfl)⟩
            refine wp_region_sure (S := S) (by kernel_rfl) (by kernel_rfl) ((SD.out _).2 (⟨B0.out, BB.out.drew⟩)) ?_
            repeat
              (first
                | (refine SureL.no (by rfl) ?_; simp only [Act.put, List.setIfInBounds_toArray, List.set_cons_zero, List.set_cons_succ])
                | (refine' SureL.yes (by rfl) (fun wS hS => ?_) ?_
                   rotate_left
                   · have hS' := (SD.out _).1 hS
                     obtain ⟨h0, hB⟩ := hS'
                     have e0_0 := h0.cell 0
                     have e0_1 := h0.cell 1
                     have e0_2 := h0.cell 2
                     go_simp
                     first
                       | exact ⟨rfl, hS⟩
                       | (go_at_call 34; refine (HR.out _).mono ?_; rintro e w' ⟨rfl, rfl⟩; exact ⟨rfl, hS⟩)
                       | (go_at_call 41; refine (HLL.out _ hB).mono ?_; rintro e w' ⟨rfl, hb⟩; exact ⟨rfl, (SD.out _).2 ⟨h0.st hb, keepb hB hb⟩⟩)
                       | (go_at_call 40; refine (HII.out _).mono ?_; rintro e w' ⟨rfl, hb⟩; exact ⟨rfl, (SD.out _).2 ⟨h0.st hb, keepb hB hb⟩⟩)
                   simp only [Act.put, List.setIfInBounds_toArray, List.set_cons_zero, List.set_cons_succ]))
            refine SureL.nil ?_
            intro wE hE
            obtain ⟨h0, hB⟩ := (SD.out _).1 hE
            have B0 := Lib.hid h0
            have BB := Lib.hid hB
            clear hE hB h0 S SD
            have c0_0 := B0.out.cell 0
            have c0_1 := B0.out.cell 1
            have c0_2 := B0.out.cell 2
            go_wp2_with fail
            refine (HW.out _ BB.out).mono ?_
            rintro e w6 ⟨rfl, hb⟩
            have HB6 := Lib.hid (keepb BB.out hb)
            clear hb c0_0 c0_1 c0_2
            go_wp2_with fail
            go_ret
            exact ⟨rfl, HB6.out⟩
          | true =>
            have hn := (HNN.out rfl HH1.out).1
            have t4 : decide ((s.length : Int) < (d.length : Int)) = false := decide_eq_false (by omega)
            have t4' : decide (s.length < d.length) = false := decide_eq_false (by omega)
            have HNX := Lib.hid ((HNN.out rfl HH1.out).2)
            clear hn
            have c0_0 := B0.out.cell 0
            have c0_1 := B0.out.cell 1
            have c0_2 := B0.out.cell 2
            clear c0_0 c0_1 c0_2
            obtain ⟨S, SD⟩ : ∃ S : World → Prop, Go.RowKit.Hid (∀ w' : World, S w' ↔ (Blk w' w2.heap.size 40 #[.string ⟨f.toArray⟩, .string ⟨t.toArray⟩, .bool cl] ∧ Below w.heap.size w w')) := ⟨_, Lib.hid (fun _ => Iff.rfl)⟩
            refine wp_region_sure (S := S) (by kernel_rfl) (by kernel_rfl) ((SD.out _).2 (⟨B0.out, BB.out.drew⟩)) ?_
            repeat
              (first
                | (refine SureL.no (by rfl) ?_; simp only [Act.put, List.setIfInBounds_toArray, List.set_cons_zero, List.set_cons_succ])
                | (refine' SureL.yes (by rfl) (fun wS hS => ?_) ?_
                   rotate_left
                   · have hS' := (SD.out _).1 hS
                     obtain ⟨h0, hB⟩ := hS'
                     have e0_0 := h0.cell 0
                     have e0_1 := h0.cell 1
                     have e0_2 := h0.cell 2
                     go_simp
                     first
                       | exact ⟨rfl, hS⟩
                       | (go_at_call 34; refine (HR.out _).mono ?_; rintro e w' ⟨rfl, rfl⟩; exact ⟨rfl, hS⟩)
                       | (go_at_call 41; refine (HLL.out _ hB).mono ?_; rintro e w' ⟨rfl, hb⟩; exact ⟨rfl, (SD.out _).2 ⟨h0.st hb, keepb hB hb⟩⟩)
                       | (go_at_call 40; refine (HII.out _).mono ?_; rintro e w' ⟨rfl, hb⟩; exact ⟨rfl, (SD.out _).2 ⟨h0.st hb, keepb hB hb⟩⟩)
                   simp only [Act.put, List.setIfInBounds_toArray, List.set_cons_zero, List.set_cons_succ]))
            refine SureL.nil ?_
            intro wE hE
            obtain ⟨h0, hB⟩ := (SD.out _).1 hE
            have B0 := Lib.hid h0
            have BB := Lib.hid hB
            clear hE hB h0 S SD
            have c0_0 := B0.out.cell 0
            have c0_1 := B0.out.cell 1
            have c0_2 := B0.out.cell 2
            go_wp2_with fail
            clear c0_0 c0_1 c0_2
            refine (HLL.out _ BB.out).mono ?_
            rintro e w6 ⟨rfl, hb⟩
            have BB := Lib.hid (keepb BB.out hb)
            clear hb
            go_wp2_with fail
            refine (HL2.out _ BB.out).mono ?_
            rintro e w7 ⟨rfl, hb⟩
            have BB := Lib.hid (keepb BB.out hb)
            clear hb
            go_wp2_with fail
            refine (HNX.out _).mono ?_
            rintro e w8 ⟨rfl, hb⟩
            have BB := Lib.hid (keepb BB.out hb)
            clear hb
            go_wp2_with fail
            refine (HW.out _ BB.out).mono ?_
            rintro e w9 ⟨rfl, hb⟩
            have BB := Lib.hid (keepb BB.out hb)
            clear hb
            go_wp2_with fail
            go_ret
            exact ⟨rfl, BB.out⟩
set_option maxRecDepth 100000 in
theorem few_no (n len cap : Nat) (A : Option Addr) (e : Int) (u : Bool) (w : World)
    (hsh : u = true → (IntKind.u64.wrap ((n : Int) * 2) == 0) = true)
    (HF : Hid (∀ W, Calls Tryz.prog 33 #[.int .u64 (n : Int)] W fun e w' => e = .returned (.bool u) ∧ W = w'))
    (HW : Hid (∀ W, Below w.heap.size w W → Calls Tryz.prog 16 #[] W fun e w' => e = .returned (.bool true) ∧ Below W.heap.size W w')) :
    Calls Tryz.prog 10 #[.int .u64 (n : Int), .slice A len cap, .int .i64 e] w fun e w' => e = .returned (.bool true) ∧ Below w.heap.size w w' := by
  have HS := Lib.hid hsh
  clear hsh
  go_enter Tryz.func10, Tryz.ntmps10
  go_wp2_with fail
  refine (HF.out _).mono ?_
  rintro e w0 ⟨rfl, rfl⟩
  cases u with
  | false =>
    go_wp2_with fail
    refine (HW.out _ (Below.refl _ _)).mono ?_
    rintro e w6 ⟨rfl, hb⟩
    go_wp2_with fail
    go_ret
    exact ⟨rfl, hb⟩
  | true =>
    have hs := HS.out (by simp)
    go_wp2_with fail
    refine (HW.out _ (Below.refl _ _)).mono ?_
    rintro e w6 ⟨rfl, hb⟩
    go_wp2_with fail
    go_ret
    exact ⟨rfl, hb⟩
theorem shl_zero (n : Nat) : (IntKind.u64.wrap ((n : Int) * 2) == 0) = decide (n % 9223372036854775808 = 0) := by
  have e : IntKind.u64.wrap ((n : Int) * 2) = ((n : Int) * 2) % 18446744073709551616 := rfl
  rw [e, Bool.eq_iff_iff]
  simp
  omega
theorem walk (a0 : Int) (a1 : Option Addr) (len1 cap1 : Nat) (z1 : List Int) (a2 : Int) (w : World) (w0 : (Lit.int .u64 a0).wf = true)
    (w1 : (a1 = none ∧ len1 = 0 ∧ cap1 = 0 ∧ z1 = []) ∨ ∃ x, a1 = some x ∧ len1 ≤ cap1 ∧ cap1 ≤ maxLen ∧ z1.length = cap1 ∧ (∀ i, i < z1.length → w.cell? (x.add i) = some (.int .u8 (z1.getD i 0))) ∧ ∀ n ∈ z1, (Lit.int .u8 n).wf = true)
    (s1 : cap1 ≤ 140737488351232) (w2 : (Lit.int .i64 a2).wf = true) (ht : Tab w) :
    Calls Tryz.prog 10 #[.int .u64 a0, .slice a1 len1 cap1, .int .i64 a2] w fun e w' => e = .returned (.bool true) ∧ Below w.heap.size w w' := by
  obtain ⟨hRB, hlc, _⟩ := RB.of_row w1
  obtain ⟨n, rfl, hn⟩ := word_wf w0
  clear w0 w1 w2
  generalize ((z1.take len1).map fun z => UInt8.ofNat z.toNat) = bs at *
  obtain ⟨b, hb⟩ : ∃ b, n % 9223372036854775808 = b := ⟨_, rfl⟩
  have hW := Lib.hid (fun W (h : Below w.heap.size w W) => works_yes W (ht.below h))
  have hsh := shl_zero n
  rw [hb] at hsh
  by_cases h1 : b ≤ most
  · have hfin : finB n = true := by unfold finB; rw [hb]; exact decide_eq_true h1
    have HF := Lib.hid (fun W => by have := finite_any n W hn; rwa [hfin] at this)
    by_cases h0 : b = 0
    · rw [decide_eq_true h0] at hsh
      exact few_no n len1 cap1 a1 a2 true w (fun _ => hsh) HF hW
    · rw [decide_eq_false h0] at hsh
      obtain ⟨s1, s2, s3, s4, s5⟩ := short_size h1 (show 0 < b by omega)
      have hdg := rowS_digits (bs.take 20)
      have hlen20 : (rowS (bs.take 20)).length ≤ 20 := by unfold rowS; rw [List.length_map, List.length_take]; omega
      have hu : unitE = 1075 := rfl
      have hand := andnot_top n hn
      rw [hb] at hand
      have num : -400 ≤ a2 → a2 ≤ 400 → rightB (rowS (bs.take 20)) = true → NumT (litL (rowS (bs.take 20)) a2) (valX (rowD (rowS (bs.take 20), a2))) := fun e1 e2 hr => by
        obtain ⟨r1, r2, r3⟩ := of_decide_eq_true hr
        exact lit_num hdg r1 (.inr r2) (by omega) (by omega) (by omega)
      refine few_walk n len1 cap1 a1 bs a2 (shortR b).2 (shortR b).1 (formN (fromN b)) (formN (toN b)) (b % 2 == 0) (rightB (rowS (bs.take 20))) (insD b (valX (rowD (rowS (bs.take 20), a2)))) w hRB (by omega) hsh HF ?_ ?_ ?_ ?_ ?_ ?_ ?_ hW
      · refine Lib.hid (fun W => ?_)
        have := dshort_any n W hn
        unfold shortV at this
        rw [hb, if_neg (by omega)] at this
        exact this
      · exact Lib.hid (fun W => around_fin n b W hn hb h1)
      · exact Lib.hid (fun W => right_d _ hdg (by omega) W)
      · exact Lib.hid (fun e1 e2 W hB => literal_d _ a2 W (by omega) (by omega) (by omega) (ht.below hB))
      · exact Lib.hid (fun W hB => literal_d _ _ W (by omega) (by omega) (by omega) (ht.below hB))
      · refine Lib.hid (fun e1 e2 hr hl W => ?_)
        have := inside_lit (b % 2 == 0) (num e1 e2 hr) (from_num h1) (to_num h1) W
        rwa [insC_D] at this
      · refine Lib.hid (fun e1 e2 hr hi hl => ?_)
        obtain ⟨r1, r2, r3⟩ := of_decide_eq_true hr
        obtain ⟨f1, f2⟩ := fewest_law h1 (show 0 < b by omega) hdg r1 hl (by omega) hi
        refine ⟨f1, fun W => ?_⟩
        exact near_walk n b _ _ _ _ _ W hand (Lib.hid (fun W => ag_num (num e1 e2 hr) b h1 W)) (Lib.hid (fun W => ag_num (short_num h1 (show 0 < b by omega)) b h1 W)) (Lib.hid (fun W => comp_num (num e1 e2 hr) (short_num h1 (show 0 < b by omega)) W)) (cmpI_range _ _) (cmpI_range _ _) (cmpI_range _ _) f2
  · have hfin : finB n = false := by unfold finB; rw [hb]; exact decide_eq_false h1
    exact few_no n len1 cap1 a1 a2 false w (fun h => by cases h) (Lib.hid (fun W => by have := finite_any n W hn; rwa [hfin] at this)) hW
end Go.Proofs.YtnajondbdeclmaaGreatDoor.digitsFewest
