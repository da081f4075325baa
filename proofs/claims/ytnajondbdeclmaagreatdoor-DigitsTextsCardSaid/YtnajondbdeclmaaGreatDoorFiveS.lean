/- The reference's digits: the shortest row (Shortest). -/
import Derived.Test.YtnajondbdeclmaaGreatDoorFiveM
namespace Go.Proofs.YtnajondbdeclmaaGreatDoor
open Go.RowKit
attribute [local go_sem] SGives_value SGives_skip SGives_enter
set_option linter.unusedSimpArgs false
set_option linter.unusedVariables false

/-- What one round of the search meets: so many digits, the neighbour below, the one above. -/
def RoundK (s fs ts : List UInt8) (cl : Bool) (L k : Nat) (pk : Option Nat) : Prop :=
  ∃ (T nx lowS highS d1 d2 : List UInt8) (i1 i2 up : Bool) (c : Int) (lo hi : Nat),
    s.take k = T ∧ T.length = k ∧ nx.length ≤ 6000 ∧ T ++ List.replicate (L - k) 48 = lowS ∧ nx ++ List.replicate (L - k) 48 = highS ∧
    (∀ W, Calls Tryz.prog 62 #[.string ⟨T.toArray⟩] W fun e w' => e = .returned (.string ⟨nx.toArray⟩) ∧ Below W.heap.size W w') ∧
    (∀ W, Calls Tryz.prog 63 #[.string ⟨lowS.toArray⟩, .string ⟨fs.toArray⟩, .string ⟨ts.toArray⟩, .bool cl] W fun e w' => e = .returned (.bool i1) ∧ W = w') ∧
    (∀ W, Calls Tryz.prog 63 #[.string ⟨highS.toArray⟩, .string ⟨fs.toArray⟩, .string ⟨ts.toArray⟩, .bool cl] W fun e w' => e = .returned (.bool i2) ∧ W = w') ∧
    (∀ W, Calls Tryz.prog 65 #[.string ⟨s.toArray⟩, .string ⟨lowS.toArray⟩] W fun e w' => e = .returned (.string ⟨d1.toArray⟩) ∧ Below W.heap.size W w') ∧
    (∀ W, Calls Tryz.prog 65 #[.string ⟨highS.toArray⟩, .string ⟨s.toArray⟩] W fun e w' => e = .returned (.string ⟨d2.toArray⟩) ∧ Below W.heap.size W w') ∧
    (∀ W, Calls Tryz.prog 64 #[.string ⟨d1.toArray⟩, .string ⟨d2.toArray⟩] W fun e w' => e = .returned (.int .i64 c) ∧ W = w') ∧
    (∀ W, Calls Tryz.prog 66 #[.string ⟨lowS.toArray⟩] W fun e w' => e = .returned (.tuple #[.string ⟨(rowN lo).1.toArray⟩, .int .i64 (rowN lo).2]) ∧ W = w') ∧
    (∀ W, Calls Tryz.prog 66 #[.string ⟨highS.toArray⟩] W fun e w' => e = .returned (.tuple #[.string ⟨(rowN hi).1.toArray⟩, .int .i64 (rowN hi).2]) ∧ W = w') ∧
    (c = 1 ∧ up = true ∨ c = -1 ∧ up = false ∨ c = 0 ∧ up = (bt s (k - 1) % 2 == 1)) ∧
    pk = (if i1 && i2 then some (if up then hi else lo) else if i2 then some hi else if i1 then some lo else none)
set_option maxRecDepth 100000 in
set_option maxHeartbeats 4000000 in
theorem rshort_walk (n S L : Nat) (s fs ts : List UInt8) (cl : Bool) (pick : Nat → Option Nat) (w : World)
    (HF : Hid (∀ W, Calls Tryz.prog 58 #[.int .u64 (n : Int)] W fun e w' => e = .returned (.bool true) ∧ W = w'))
    (HSZ : Hid (∀ W, Calls Tryz.prog 59 #[.int .u64 (n : Int)] W fun e w' => e = .returned (.string ⟨s.toArray⟩) ∧ Below W.heap.size W w'))
    (HEN : Hid (∀ W, Calls Tryz.prog 60 #[.int .u64 (n : Int)] W fun e w' => e = .returned (.tuple #[.string ⟨fs.toArray⟩, .string ⟨ts.toArray⟩, .bool cl]) ∧ Below W.heap.size W w'))
    (HRW : Hid (∀ W, Calls Tryz.prog 66 #[.string ⟨s.toArray⟩] W fun e w' => e = .returned (.tuple #[.string ⟨(rowN S).1.toArray⟩, .int .i64 (rowN S).2]) ∧ W = w'))
    (HRK : Hid (∀ k, 1 ≤ k → k < L → RoundK s fs ts cl L k (pick k)))
    (hL : s.length = L) (h0 : 0 < L) (hL2 : L ≤ 5000) (R : List UInt8 × Int) (hR : rowN (firstG pick S (L - 1) 1) = R) :
    Calls Tryz.prog 14 #[.int .u64 (n : Int)] w fun e w' => e = .returned (.tuple #[.string ⟨R.1.toArray⟩, .int .i64 R.2, .int .i64 0]) ∧ Below w.heap.size w w' := by
  have hLI : (L : Int) ≤ 5000 := by omega
  have hse : s.isEmpty = false := by cases s <;> simp_all
  have HNO := Lib.hid (fun W j (hj : j ≤ 100000) => rnoughts_any j W hj)
  have HR := Lib.hid hR
  have HL := Lib.hid hL
  have HL2 := Lib.hid hL2
  clear hR hL2
  go_enter Tryz.func14, Tryz.ntmps14
  go_wp2_with fail
  refine (HF.out _).mono ?_
  rintro e w1 ⟨rfl, rfl⟩
  go_wp2_with fail
  refine (HSZ.out _).mono ?_
  rintro e w2 ⟨rfl, hb⟩
  have BB := Lib.hid hb
  clear hb
  go_wp2_with fail
  refine (HEN.out _).mono ?_
  rintro e w3 ⟨rfl, hb⟩
  have BB := Lib.hid (keepb BB.out hb)
  clear hb
  go_wp2_with fail
  clear hse
  go_loopw [9] (fun s9 wr => ∃ k : Nat, s9 = .int .i64 k ∧ 1 ≤ k ∧ k ≤ L ∧ rowN (firstG pick S (L - k) k) = R ∧ Below w.heap.size w wr) (fun s9 _ => L - (intOf s9).toNat)
  case atStart => exact ⟨1, rfl, Nat.le_refl _, h0, HR.out, BB.out⟩
  case round =>
    obtain ⟨k, rfl, hk1, hk2, hres, hbel⟩ := hrel
    obtain ⟨wi, rfl⟩ : ∃ wi : World, wi = wr := ⟨_, rfl⟩
    have HRES := Lib.hid hres
    have BB := Lib.hid hbel
    clear hres hbel
    by_cases hlt : k < L
    · obtain ⟨T, nx, lowS, highS, d1, d2, i1, i2, up, c, lo, hi, hT, hTl, hnx, hlo, hhi, hNX, hI1, hI2, hD1, hD2, hCM, hRL, hRH, hup, hpk⟩ := HRK.out k hk1 hlt
      have hf : firstG pick S (L - k) k = match pick k with | some x => x | none => firstG pick S (L - (k + 1)) (k + 1) := by
        obtain ⟨f, hff⟩ : ∃ f, L - k = f + 1 := ⟨L - k - 1, by omega⟩
        rw [hff, firstG_succ, show L - (k + 1) = f by omega]
        cases pick k <;> rfl
      rw [hpk] at hf
      have HFF := Lib.hid hf
      have HUP := Lib.hid hup
      have HNX := Lib.hid hNX
      have HI1 := Lib.hid hI1
      have HI2 := Lib.hid hI2
      have HD1 := Lib.hid hD1
      have HD2 := Lib.hid hD2
      have HCM := Lib.hid hCM
      have HRL := Lib.hid hRL
      have HRH := Lib.hid hRH
      have hc1 := cut_take s k
      rw [hT] at hc1
      obtain ⟨z, hz⟩ : ∃ z, L - k = z := ⟨_, rfl⟩
      have kz : (L : Int) - (k : Int) = (z : Int) := by omega
      have HNZ := Lib.hid (fun W => HNO.out W z (by omega))
      rw [hz] at hlo hhi
      have hq1 := sv_cat T (List.replicate z 48)
      have hq2 := sv_cat nx (List.replicate z 48)
      rw [hlo] at hq1
      rw [hhi] at hq2
      have lz : ((List.replicate z (48 : UInt8)).length : Int) ≤ 5000 := by rw [List.length_replicate]; omega
      have lT : (T.length : Int) ≤ 5000 := by omega
      have lN : (nx.length : Int) ≤ 6000 := by omega
      have t1 : decide ((k : Int) < (L : Int)) = true := decide_eq_true (by omega)
      have t1' : decide (k < L) = true := decide_eq_true hlt
      have hkL : (k : Int) ≤ (L : Int) := by omega
      have hkI : (k : Int) ≤ 5000 := by omega
      have hk1I : (1 : Int) ≤ (k : Int) := by omega
      have HK1 := Lib.hid hk1
      have HLT := Lib.hid hlt
      generalize List.replicate z (48 : UInt8) = Z at *
      rw [hTl] at lT
      have hs1 : ¬ 9223372036854775807 < k + Z.length := by omega
      have hs2 : ¬ 9223372036854775807 < nx.length + Z.length := by omega
      clear hNX hI1 hI2 hD1 hD2 hCM hRL hRH hup hpk hf hT hnx hlo hhi hz hlt
      go_wp2_with fail
      refine (HNZ.out _).mono ?_
      rintro e wq ⟨rfl, rfl⟩
      go_upto_region 11 with fail
      obtain ⟨S, SD⟩ : ∃ S : World → Prop, Go.RowKit.Hid (∀ w' : World, S w' ↔ (Below w.heap.size w w')) := ⟨_, Lib.hid (fun _ => Iff.rfl)⟩
      refine wp_region_sure (S := S) (by kernel_rfl) (by kernel_rfl) ((SD.out _).2 (BB.out.drew)) ?_
      repeat
        (first
          | (refine SureL.no (by rfl) ?_; simp only [Act.put, List.setIfInBounds_toArray, List.set_cons_zero, List.set_cons_succ])
          | (refine' SureL.yes (by rfl) (fun wS hS => ?_) ?_
             rotate_left
             · have hS' := (SD.out _).1 hS
               have hB := hS'
               go_simp
               first
                 | exact ⟨rfl, hS⟩
                 | (go_at_call 62; refine (HNX.out _).mono ?_; rintro e w' ⟨rfl, hb⟩; exact ⟨rfl, (SD.out _).2 (keepb hB hb)⟩)
             simp only [Act.put, List.setIfInBounds_toArray, List.set_cons_zero, List.set_cons_succ]))
      refine SureL.nil ?_
      intro wE hE
      have hB := (SD.out _).1 hE
      have BB := Lib.hid hB
      clear hE hB S SD
      go_wp2_with fail
      refine (HI1.out _).mono ?_
      rintro e wq ⟨rfl, rfl⟩
      go_wp2_with fail
      refine (HI2.out _).mono ?_
      rintro e wq ⟨rfl, rfl⟩
      clear t1 t1'
      by_cases hnone : i1 = false ∧ i2 = false
      · obtain ⟨rfl, rfl⟩ := hnone
        have hF2 : Hid (rowN (firstG pick S (L - (k + 1)) (k + 1)) = R) := Lib.hid (by have := HRES.out; rw [HFF.out] at this; exact this)
        go_wp2_with fail
        go_roundw
        case rel => exact ⟨k + 1, by go_num, by omega, HLT.out, hF2.out, BB.out⟩
        case measure => have := HLT.out; simp [intOf]; omega
      · have hres2 := HRES.out
        rw [HFF.out] at hres2
        cases i1 with
        | false =>
          have hi2 : i2 = true := by cases i2; exact absurd ⟨rfl, rfl⟩ hnone; rfl
          subst hi2
          have HF2 := Lib.hid (show rowN hi = R from hres2)
          clear hres2 hnone
          go_wp2_with fail
          refine (HD1.out _).mono ?_
          rintro e wq ⟨rfl, hb⟩
          have BB := Lib.hid (keepb BB.out hb)
          clear hb
          go_wp2_with fail
          refine (HD2.out _).mono ?_
          rintro e wq ⟨rfl, hb⟩
          have BB := Lib.hid (keepb BB.out hb)
          clear hb
          go_wp2_with fail
          refine (HCM.out _).mono ?_
          rintro e wq ⟨rfl, rfl⟩
          go_wp2_with fail
          refine (HRH.out _).mono ?_
          rintro e wq ⟨rfl, rfl⟩
          go_wp2_with fail
          go_ret3
          exact ⟨by rw [← HF2.out] <;> rfl, BB.out⟩
        | true =>
          clear hnone
          cases i2 with
          | false =>
            have HF2 := Lib.hid (show rowN lo = R from hres2)
            clear hres2
            go_wp2_with fail
            refine (HD1.out _).mono ?_
            rintro e wq ⟨rfl, hb⟩
            have BB := Lib.hid (keepb BB.out hb)
            clear hb
            go_wp2_with fail
            refine (HD2.out _).mono ?_
            rintro e wq ⟨rfl, hb⟩
            have BB := Lib.hid (keepb BB.out hb)
            clear hb
            go_wp2_with fail
            refine (HCM.out _).mono ?_
            rintro e wq ⟨rfl, rfl⟩
            go_wp2_with fail
            refine (HRL.out _).mono ?_
            rintro e wq ⟨rfl, rfl⟩
            go_wp2_with fail
            go_ret3
            exact ⟨by rw [← HF2.out] <;> rfl, BB.out⟩
          | true =>
            rcases HUP.out with ⟨rfl, rfl⟩ | ⟨rfl, rfl⟩ | ⟨rfl, hpar⟩
            · have HF2 := Lib.hid (show rowN hi = R from hres2)
              clear hres2
              go_wp2_with fail
              refine (HD1.out _).mono ?_
              rintro e wq ⟨rfl, hb⟩
              have BB := Lib.hid (keepb BB.out hb)
              clear hb
              go_wp2_with fail
              refine (HD2.out _).mono ?_
              rintro e wq ⟨rfl, hb⟩
              have BB := Lib.hid (keepb BB.out hb)
              clear hb
              go_wp2_with fail
              refine (HCM.out _).mono ?_
              rintro e wq ⟨rfl, rfl⟩
              go_wp2_with fail
              refine (HRH.out _).mono ?_
              rintro e wq ⟨rfl, rfl⟩
              go_wp2_with fail
              go_ret3
              exact ⟨by rw [← HF2.out] <;> rfl, BB.out⟩
            · have HF2 := Lib.hid (show rowN lo = R from hres2)
              clear hres2
              go_wp2_with fail
              refine (HD1.out _).mono ?_
              rintro e wq ⟨rfl, hb⟩
              have BB := Lib.hid (keepb BB.out hb)
              clear hb
              go_wp2_with fail
              refine (HD2.out _).mono ?_
              rintro e wq ⟨rfl, hb⟩
              have BB := Lib.hid (keepb BB.out hb)
              clear hb
              go_wp2_with fail
              refine (HCM.out _).mono ?_
              rintro e wq ⟨rfl, rfl⟩
              go_wp2_with fail
              refine (HRL.out _).mono ?_
              rintro e wq ⟨rfl, rfl⟩
              go_wp2_with fail
              go_ret3
              exact ⟨by rw [← HF2.out] <;> rfl, BB.out⟩
            · have hb4 := bget s (k - 1) (by have := HL.out; have := HK1.out; have := HLT.out; omega)
              have kk : (k : Int) - 1 = ((k - 1 : Nat) : Int) := by have := HK1.out; omega
              have hkl : k - 1 < L := by have := HLT.out; omega
              have hb256 : bt s (k - 1) < 256 := by rw [← hb4]; exact UInt8.toNat_lt _
              obtain ⟨x, hx⟩ : ∃ x, bt s (k - 1) = x := ⟨_, rfl⟩
              rw [hx] at hb4 hpar hb256
              have hxI : (x : Int) < 256 := by omega
              by_cases hp : x % 2 = 1
              · have p1 : ((x : Int) % 2 == 1) = true := by rw [beq_iff_eq]; omega
                have hu : up = true := by rw [hpar, beq_iff_eq]; exact hp
                subst hu
                have HF2 := Lib.hid (show rowN hi = R from hres2)
                clear hres2 hp hpar hx hb256
                go_wp2_with fail
                refine (HD1.out _).mono ?_
                rintro e wq ⟨rfl, hb⟩
                have BB := Lib.hid (keepb BB.out hb)
                clear hb
                go_wp2_with fail
                refine (HD2.out _).mono ?_
                rintro e wq ⟨rfl, hb⟩
                have BB := Lib.hid (keepb BB.out hb)
                clear hb
                go_wp2_with fail
                refine (HCM.out _).mono ?_
                rintro e wq ⟨rfl, rfl⟩
                go_wp2_with fail
                refine (HRH.out _).mono ?_
                rintro e wq ⟨rfl, rfl⟩
                go_wp2_with fail
                go_ret3
                exact ⟨by rw [← HF2.out] <;> rfl, BB.out⟩
              · have p1 : ((x : Int) % 2 == 1) = false := by rw [beq_eq_false_iff_ne]; omega
                have hu : up = false := by rw [hpar, beq_eq_false_iff_ne]; exact hp
                subst hu
                have HF2 := Lib.hid (show rowN lo = R from hres2)
                clear hres2 hp hpar hx hb256
                go_wp2_with fail
                refine (HD1.out _).mono ?_
                rintro e wq ⟨rfl, hb⟩
                have BB := Lib.hid (keepb BB.out hb)
                clear hb
                go_wp2_with fail
                refine (HD2.out _).mono ?_
                rintro e wq ⟨rfl, hb⟩
                have BB := Lib.hid (keepb BB.out hb)
                clear hb
                go_wp2_with fail
                refine (HCM.out _).mono ?_
                rintro e wq ⟨rfl, rfl⟩
                go_wp2_with fail
                refine (HRL.out _).mono ?_
                rintro e wq ⟨rfl, rfl⟩
                go_wp2_with fail
                go_ret3
                exact ⟨by rw [← HF2.out] <;> rfl, BB.out⟩
    · obtain rfl : k = L := by omega
      have hF2 : rowN S = R := by have := HRES.out; rw [Nat.sub_self, firstG_zero] at this; exact this
      have t1 : decide ((k : Int) < (k : Int)) = false := decide_eq_false (by omega)
      have t1' : decide (k < k) = false := decide_eq_false (by omega)
      clear hlt
      have HF2 := Lib.hid hF2
      clear hF2
      go_wp2_with fail
      refine (HRW.out _).mono ?_
      rintro e wq ⟨rfl, rfl⟩
      go_wp2_with fail
      go_ret3
      exact ⟨by rw [← HF2.out] <;> rfl, BB.out⟩
theorem tx_len5 {x : Nat} (h : x < 2 ^ bigE) : (tx x).length ≤ 5000 := by
  unfold tx
  have h2 := lenD_le h
  have h3 : lenE = 2160 := rfl
  split
  · exact Nat.zero_le _
  · show lenD x ≤ 5000
    omega
theorem tx_mono {x y : Nat} (h : y ≤ x) : (tx y).length ≤ (tx x).length := by
  rcases Nat.eq_zero_or_pos y with h0 | h0
  · rw [h0, tx_zero]; exact Nat.zero_le _
  · have h1 := tx_lt x
    have h2 := tx_ge h0
    have := (Nat.pow_lt_pow_iff_right (show 1 < 10 by decide)).1 (Nat.lt_of_le_of_lt (Nat.le_trans h2 h) h1)
    omega
theorem tx_head {S k : Nat} (h0 : 0 < S) (hk : 1 ≤ k) (hkL : k < lenD S) : (dtext S).take k = dtext (S / 10 ^ (lenD S - k)) ∧ 0 < S / 10 ^ (lenD S - k) := by
  have hv := head_text S k (Nat.le_of_lt hkL)
  have hge := lenD_ge h0
  have hp : 0 < S / 10 ^ (lenD S - k) := Nat.div_pos (Nat.le_trans (Nat.pow_le_pow_right (by decide) (by omega)) hge) (pow10 _)
  refine ⟨?_, hp⟩
  rw [← hv]
  have hl : (dtext S).length = lenD S := rfl
  have hh := dtext_head h0
  refine (dtext_canon (fun c hc => dtext_digits S c (List.mem_of_mem_take hc)) ?_ (.inl ?_)).symm
  · intro h
    have := congrArg List.length h
    rw [List.length_take, hl, Nat.min_eq_left (by omega), List.length_nil] at this
    omega
  · cases hd : dtext S with
    | nil => exact absurd hd (dtext_ne S)
    | cons c l =>
      rw [hd] at hh
      obtain ⟨j, rfl⟩ : ∃ j, k = j + 1 := ⟨k - 1, by omega⟩
      intro e
      apply hh
      have e2 : c = 48 := e
      rw [e2]; rfl
theorem round_k {S F T L k : Nat} {cl : Bool} (ins : Nat → Bool) (h0 : 0 < S) (hL : lenD S = L) (hL2 : L ≤ 5000) (hk : 1 ≤ k) (hkL : k < L) (hF : (tx F).length ≤ 5000) (hT : (tx T).length ≤ 5000)
    (hins : ∀ x, insC (cmpI x F) (cmpI x T) cl = ins x) : RoundK (dtext S) (tx F) (tx T) cl L k (pickG ins S L k) := by
  subst hL
  obtain ⟨hT1, hp⟩ := tx_head h0 hk hkL
  have hl : (dtext S).length = lenD S := rfl
  have hTl : ((dtext S).take k).length = k := by rw [List.length_take, hl]; omega
  have hdig := dtext_digits S
  obtain ⟨z, hz⟩ : ∃ z, lenD S - k = z := ⟨_, rfl⟩
  have hpz := pow10 z
  have hpk : pickG ins S (lenD S) k = if ins (S / 10 ^ z * 10 ^ z) && ins (S / 10 ^ z * 10 ^ z + 10 ^ z) then some (if upper S (S / 10 ^ z * 10 ^ z) (S / 10 ^ z * 10 ^ z + 10 ^ z) (S / 10 ^ z) then S / 10 ^ z * 10 ^ z + 10 ^ z else S / 10 ^ z * 10 ^ z)
      else if ins (S / 10 ^ z * 10 ^ z + 10 ^ z) then some (S / 10 ^ z * 10 ^ z + 10 ^ z) else if ins (S / 10 ^ z * 10 ^ z) then some (S / 10 ^ z * 10 ^ z) else none := by subst hz; rfl
  rw [hz] at hT1 hp
  obtain ⟨h, hh⟩ : ∃ h, S / 10 ^ z = h := ⟨_, rfl⟩
  rw [hh] at hT1 hp hpk
  have hdm := Nat.div_add_mod S (10 ^ z)
  have hmod := Nat.mod_lt S hpz
  rw [hh, Nat.mul_comm] at hdm
  have hlo : dtext h ++ List.replicate z 48 = dtext (h * 10 ^ z) := (dtext_mul hp z).symm
  have hhi : dtext (h + 1) ++ List.replicate z 48 = dtext (h * 10 ^ z + 10 ^ z) := by rw [← dtext_mul (by omega) z, Nat.add_mul, Nat.one_mul]
  have hhk : (dtext h).length = k := by rw [← hT1]; exact hTl
  have hh1 : (dtext (h + 1)).length ≤ k + 1 := by
    refine dtext_len ?_ (by omega)
    have := lenD_lt h
    have e : lenD h = k := hhk
    rw [e] at this
    rw [Nat.pow_succ]
    omega
  have hbt : bt (dtext S) (k - 1) % 2 = h % 2 := by
    have h1 := bt_par (l := (dtext S).take k) (fun c hc => hdig c (List.mem_of_mem_take hc)) (by intro e; rw [e] at hTl; simp at hTl; omega)
    rw [hTl, hT1, dtext_val] at h1
    rw [← h1, ← hT1]
    unfold bt
    rw [List.getD_eq_getElem?_getD, List.getD_eq_getElem?_getD, List.getElem?_take, if_pos (by omega)]
  obtain ⟨lo, hlov⟩ : ∃ lo, h * 10 ^ z = lo := ⟨_, rfl⟩
  obtain ⟨p, hpp⟩ : ∃ p, 10 ^ z = p := ⟨_, rfl⟩
  rw [hlov] at hdm hlo hhi hpk
  rw [hpp] at hpz hmod hdm hhi hpk
  have hlo0 : 0 < lo := by rw [← hlov, hpp]; exact Nat.mul_pos hp hpz
  have e1 : dtext S = tx S := (tx_pos h0).symm
  have e2 : dtext lo = tx lo := (tx_pos hlo0).symm
  have e3 : dtext (lo + p) = tx (lo + p) := (tx_pos (by omega)).symm
  have g1 : (tx S).length ≤ 5000 := by rw [← e1]; omega
  have g2 : (tx lo).length ≤ 5000 := Nat.le_trans (tx_mono (by omega)) g1
  have g3 : (tx (lo + p)).length ≤ 11000 := by
    rw [← e3, ← hhi, List.length_append, List.length_replicate]
    omega
  have g4 : (tx (S - lo)).length ≤ 5000 := Nat.le_trans (tx_mono (by omega)) g1
  have g5 : (tx (lo + p - S)).length ≤ 11000 := Nat.le_trans (tx_mono (by omega)) g3
  refine ⟨dtext h, dtext (h + 1), dtext lo, dtext (lo + p), tx (S - lo), tx (lo + p - S), ins lo, ins (lo + p), upper S lo (lo + p) h, cmpI (S - lo) (lo + p - S), lo, lo + p, hT1, hhk, by omega, by rw [hz]; exact hlo, by rw [hz]; exact hhi, ?_, ?_, ?_, ?_, ?_, ?_, ?_, ?_, ?_, hpk⟩
  · intro W
    have := rnext_any (dtext h) (dtext_digits h) (dtext_ne h) (dtext_head hp) (by omega) W
    rwa [dtext_val] at this
  · intro W
    have := rinside_any lo F T cl W (by omega) (by omega) (by omega)
    rw [hins, ← e2] at this
    exact this
  · intro W
    have := rinside_any (lo + p) F T cl W (by omega) (by omega) (by omega)
    rw [hins, ← e3] at this
    exact this
  · intro W
    have := rless_any S lo W (by omega) (by omega) (tx_mono (by omega))
    rw [← e1, ← e2] at this
    exact this
  · intro W
    have := rless_any (lo + p) S W (by omega) (by omega) (tx_mono (by omega))
    rw [← e1, ← e3] at this
    exact this
  · intro W
    exact rcmp_any _ _ W (by omega) (by omega)
  · intro W
    exact rrow_any lo hlo0 W (by rw [e2]; omega)
  · intro W
    exact rrow_any (lo + p) (by omega) W (by rw [e3]; omega)
  · unfold upper
    rcases cmpI_tri (S - lo) (lo + p - S) with ⟨c1, c2⟩ | ⟨c1, c2⟩ | ⟨c1, c2⟩
    · refine .inr (.inl ⟨c2, ?_⟩)
      rw [decide_eq_false (by omega), show (S - lo == lo + p - S) = false by rw [beq_eq_false_iff_ne]; omega]
      rfl
    · refine .inr (.inr ⟨c2, ?_⟩)
      rw [decide_eq_false (by omega), show (S - lo == lo + p - S) = true by rw [beq_iff_eq]; exact c1, hbt]
      rfl
    · refine .inl ⟨c2, ?_⟩
      rw [decide_eq_true (by omega)]
      rfl
theorem rshort_fin (n b : Nat) (w : World) (hn : n < 18446744073709551616) (hbn : n % 9223372036854775808 = b) (hb : b ≤ most) (h0 : b ≠ 0) :
    Calls Tryz.prog 14 #[.int .u64 (n : Int)] w fun e w' => e = .returned (.tuple #[.string ⟨(shortR b).1.toArray⟩, .int .i64 (shortR b).2, .int .i64 0]) ∧ Below w.heap.size w w' := by
  have hS := sz_lt hb
  have hTo : toN b < 2 ^ bigE := toN_lt hb
  have hFr : fromN b < 2 ^ bigE := Nat.lt_of_le_of_lt (fromN_le b) hTo
  have hL := lenD_le hS
  have hle : lenE = 2160 := rfl
  have hp := sz_pos (show 0 < b by omega)
  have HF := Lib.hid (fun W => by have := rfinite_any n W hn; rwa [show finB n = true by unfold finB; rw [hbn]; exact decide_eq_true hb] at this)
  have HSZ := Lib.hid (fun W => by have := rsize_any n b W hn hbn hb; rwa [tx_pos hp] at this)
  have HEN := Lib.hid (fun W => rends_any n b W hn hbn hb)
  have hins := insC_D b
  have hsr : shortR b = rowN (seekG (insD b) (sz b) (lenD (sz b))) := by unfold shortR; rw [if_neg h0]; exact Eq.refl _
  rw [hsr]
  have ht1 := tx_len5 hFr
  have ht2 := tx_len5 hTo
  generalize insD b = ins at *
  generalize toN b = To at *
  generalize fromN b = Fr at *
  generalize sz b = S at *
  refine rshort_walk n S (lenD S) (dtext S) (tx Fr) (tx To) (b % 2 == 0) (pickG ins S (lenD S)) w HF HSZ HEN (Lib.hid (fun W => rrow_any S hp W ?_)) (Lib.hid (fun k hk hkL => round_k ins hp rfl (by omega) hk hkL ht1 ht2 hins)) rfl ?_ (by omega) _ rfl
  · show lenD S ≤ 100000
    omega
  · exact List.length_pos_iff.2 (dtext_ne S)
set_option maxRecDepth 100000 in
theorem rshort_inf (n : Nat) (w : World) (hn : n < 18446744073709551616) (h : most < n % 9223372036854775808) :
    Calls Tryz.prog 14 #[.int .u64 (n : Int)] w fun e w' => e = .returned (.tuple #[.string ⟨#[]⟩, .int .i64 0, .int .i64 50]) ∧ Below w.heap.size w w' := by
  have HF := Lib.hid (fun W => by have := rfinite_any n W hn; rwa [show finB n = false by unfold finB; exact decide_eq_false (by omega)] at this)
  clear h hn
  go_enter Tryz.func14, Tryz.ntmps14
  go_wp2_with fail
  refine (HF.out _).mono ?_
  rintro e w1 ⟨rfl, rfl⟩
  go_wp2_with fail
  go_ret3
  exact ⟨rfl, Below.refl _ _⟩
set_option maxRecDepth 100000 in
theorem rshort_zero (n : Nat) (w : World) (hn : n < 18446744073709551616) (h : n % 9223372036854775808 = 0) :
    Calls Tryz.prog 14 #[.int .u64 (n : Int)] w fun e w' => e = .returned (.tuple #[.string ⟨#[48]⟩, .int .i64 1, .int .i64 0]) ∧ Below w.heap.size w w' := by
  have HF := Lib.hid (fun W => by have := rfinite_any n W hn; rwa [show finB n = true by unfold finB; exact decide_eq_true (by rw [h]; decide)] at this)
  have hz : sz 0 = 0 := by unfold sz; rw [Fl_zero, Nat.mul_zero, Nat.zero_mul]
  have HS := Lib.hid (fun W => by have := rsize_any n 0 W hn h (by decide); rwa [hz, tx_zero] at this)
  clear h hn hz
  go_enter Tryz.func14, Tryz.ntmps14
  go_wp2_with fail
  refine (HF.out _).mono ?_
  rintro e w1 ⟨rfl, rfl⟩
  go_wp2_with fail
  refine (HS.out _).mono ?_
  rintro e w2 ⟨rfl, hb⟩
  go_wp2_with fail
  go_ret3
  exact ⟨rfl, hb⟩
end Go.Proofs.YtnajondbdeclmaaGreatDoor
