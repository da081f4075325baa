/- The contract of the law's 'back'. -/
import Derived.Test.YtdlplmflimleaaaBaseF
import Derived.Test.YtdlplmflimleaaaBaseR
namespace Go.Proofs.Ytdlplmflimleaaa
open Go.RowKit
set_option linter.unusedSimpArgs false
set_option linter.unusedVariables false

theorem set_row {W : World} {g n at_ : Nat} {s : List UInt8} (hc : ∀ j, (h : j < s.length) → W.cell? ⟨g, j, none⟩ = some (bv s[j])) (hat : at_ < s.length) (to : UInt8) (hn : s.length = n) :
    RB (W.setCell ⟨g, at_, none⟩ (bv to)) (g + 1) (some ⟨g, 0, none⟩) n (s.set at_ to) := by
  refine ⟨by simpa using hn, fun _ => ⟨g, 0, rfl, by omega, fun j hj => ?_⟩⟩
  rw [List.length_set] at hj
  rw [Nat.zero_add]
  by_cases h : at_ = j
  · subst h
    rw [World.cell?_setCell_same' _ _ _ (by rw [hc at_ hj]; rfl)]; simp
  · refine Eq.trans (b := W.cell? ⟨g, j, none⟩) (by apply World.cell?_setCell_other; intro e; injection e with _ e2; exact h e2) ?_
    rw [hc j hj]
    simp [h]

theorem ret_true {b : Bool} (h : b = true) : Ending.returned (.bool b) = .returned (.bool true) := by rw [h]

set_option maxRecDepth 100000 in
set_option maxHeartbeats 4000000 in
theorem back_any (a : Int) (A : Option Addr) (n c B : Nat) (bs : List UInt8) (at_ : Int) (to : UInt8) (w : World) (h : RB w B A n bs) (hB : B ≤ w.heap.size) (hn : n ≤ 9223372036854775807) (ha : -9223372036854775808 ≤ a ∧ a ≤ 9223372036854775807) (hat : -9223372036854775808 ≤ at_ ∧ at_ ≤ 9223372036854775807) :
    Calls Try.prog 28 #[.int .i64 a, .slice A n c, .int .i64 at_, bv to] w fun e w' => e = .returned (.bool true) ∧ Below w.heap.size w w' := by
  have hl := h.1
  have HR := Lib.hid (h.mono hB)
  clear h hB
  by_cases hbig : 134217728 < n
  · have hbd : decide (134217728 < n) = true := by simpa using hbig
    go_enter Try.func28, Try.ntmps28
    go_wp2_with fail
    refine (beyond_any _ _ (by omega)).mono ?_
    rintro e w' ⟨rfl, rfl⟩
    go_wp2_with fail
    go_ret
    exact ⟨rfl, Below.refl _ _⟩
  have hbd : decide (134217728 < n) = false := by simpa using hbig
  by_cases hz : Bt a = 0
  · have K : Hid (Bt a = 0) := hz
    clear hz
    go_enter Try.func28, Try.ntmps28
    go_wp2_with fail
    refine (beyond_any _ _ (by omega)).mono ?_
    rintro e w' ⟨rfl, rfl⟩
    go_wp2_with fail
    refine (rbits_k _ _ _ K).mono ?_
    rintro e w' ⟨rfl, rfl⟩
    go_wp2_with fail
    go_ret
    exact ⟨rfl, Below.refl _ _⟩
  obtain ⟨k, hk, h0, ha1, ha3⟩ : ∃ k : Nat, Bt a = k ∧ (k = 4 ∨ k = 5 ∨ k = 6) ∧ 1 ≤ a ∧ a ≤ 3 := by
    rcases Bt_cases a with ⟨h1, h⟩ | ⟨h1, h⟩ | ⟨h1, h⟩ | ⟨_, _, _, h, _⟩
    · exact ⟨4, h, .inl rfl, by omega, by omega⟩
    · exact ⟨5, h, .inr (.inl rfl), by omega, by omega⟩
    · exact ⟨6, h, .inr (.inr rfl), by omega, by omega⟩
    · exact absurd h hz
  have K : Hid (Bt a = (k : Int)) := hk
  have H0 := Lib.hid h0
  have hkz : ((k : Int) == 0) = false := by simp; omega
  have hm : a % 256 = a := by omega
  have hsn : decide (0 < n) = true → (lets a k bs == []) = false := by
    intro hp
    have := lets_nil a k (by omega) bs (by rw [hl]; simpa using hp)
    simpa using this
  have hrl := lets_rd a k hk h0 bs
  have hll := lets_length a k bs
  have hlb : (lets a k bs).length ≤ 1000000000 := by
    rw [hll]; unfold lettersOf; rw [hl]; rcases h0 with rfl | rfl | rfl <;> omega
  have HRL := Lib.hid hrl
  have HSN := Lib.hid hsn
  have hbb : (bs == bs) = true := by simp
  have hRW := Lib.hid (fun t => rd_lets a k hk h0 t)
  have HSL := Lib.hid (show lets a k bs = lets a k bs from rfl)
  clear hk h0 hz hrl hll hsn
  go_enter Try.func28, Try.ntmps28
  go_wp2_with fail
  refine (beyond_any _ _ (by omega)).mono ?_
  rintro e w' ⟨rfl, rfl⟩
  go_wp2_with fail
  refine (rbits_k _ _ _ K).mono ?_
  rintro e w' ⟨rfl, rfl⟩
  go_wp2_with fail
  refine (Write_ok a k _ _ _ _ bs _ HR.out (Nat.le_refl _) K H0.out (by omega)).mono ?_
  rintro e w1 ⟨rfl, hb1⟩
  have hHR1 := HR.out.below hb1
  have HR1 := Lib.hid hHR1
  have HB1 := Lib.hid hb1
  clear hb1 hHR1
  have hs1 := HB1.out.size
  generalize hS : lets a k bs = S at *
  have HS := Lib.hid hS
  clear hS HSL
  have hbsz : (⟨S.toArray⟩ : ByteArray).size = S.length := rfl
  cases hd : decide (0 < n)
  all_goals
    try have hx := HSN.out hd
    go_wp2_with fail
    refine (read_k a k S _ K H0.out hlb).mono ?_
    rintro e w2 ⟨v, er, rfl, hb2, h1, h2⟩
    obtain ⟨rfl, hown⟩ := h1 (by rw [HRL.out])
    rw [HRL.out] at hown
    simp only [hl] at hown
    obtain ⟨A2, c2, rfl, _⟩ := own_shape hown.own
    have hRB2 := RB.of_own hown.own
    have hb12 := hb2.mono hs1
    have hR2 := HR1.out.below hb12
    have hbw2 := HB1.out.trans hb12
    have HR2 := Lib.hid hR2
    have HB2 := Lib.hid hbw2
    have hs2 := hbw2.size
    have hSA := same_any A A2 n n c c2 _ _ bs bs _ hR2 hRB2
    rw [hbb] at hSA
    have HSA := Lib.hid hSA
    clear h1 h2 hown hRB2 hb12 hR2 hbw2 hb2 hSA HSN
    go_wp2_with fail
    refine HSA.out.mono ?_
    rintro e w' ⟨rfl, rfl⟩
    by_cases c1 : at_ < 0
    · go_wp2_with fail
      go_ret
      exact ⟨rfl, HB2.out⟩
    by_cases c3 : (S.length : Int) ≤ at_
    · go_wp2_with fail
      go_ret
      exact ⟨rfl, HB2.out⟩
    obtain ⟨i, rfl⟩ : ∃ i : Nat, at_ = (i : Int) := ⟨at_.toNat, by omega⟩
    have hi : i < S.length := by omega
    have hbb2 := bit_byte S[i] to
    by_cases heq : S[i] = to
    · have hcmp : (((⟨S.toArray⟩ : ByteArray)[i]'hi).toNat : Int) == (to.toNat : Int) := by
        show ((S[i].toNat : Int) == (to.toNat : Int)) = true
        rw [hbb2]; simpa using heq
      clear hbb2 heq
      go_wp2_with fail
      go_ret
      exact ⟨rfl, HB2.out⟩
    have hcmp : ((((⟨S.toArray⟩ : ByteArray)[i]'hi).toNat : Int) == (to.toNat : Int)) = false := by
      show ((S[i].toNat : Int) == (to.toNat : Int)) = false
      rw [hbb2]; simpa using heq
    have HEQ := Lib.hid heq
    clear hbb2 heq
    have kc := fun W => Lib.run_convert_string_bytes (P := Try.prog) W 9 34 5 ⟨S.toArray⟩ Try.underlying9 Try.underlying34 Try.underlying5
    have hall : ∀ j, (h : j < S.length) → (Lib.bytesWorld w2 5 ⟨S.toArray⟩).cell? ⟨w2.heap.size, j, none⟩ = some (bv S[j]) := by
      intro j hj
      rw [Lib.bytesWorld_cell w2 5 ⟨S.toArray⟩ j hj]
      simp [List.getD, hj]
    have hbc := hall i hi
    have hbf : (Lib.bytesWorld w2 5 ⟨S.toArray⟩).frozen? ⟨w2.heap.size, i, none⟩ = false := by
      have hsz : i < (Lib.bytesCells w2 5 ⟨S.toArray⟩).size := by
        unfold Lib.bytesCells; simp; omega
      simp [World.frozen?, Lib.bytesWorld_at_new]
      omega
    have hRB3 := set_row (n := S.length) hall hi to rfl
    have hbel3 : Below w2.heap.size w2 ((Lib.bytesWorld w2 5 ⟨S.toArray⟩).setCell ⟨w2.heap.size, i, none⟩ (bv to)) := (below_bytesWorld w2 5 ⟨S.toArray⟩).setCell (Nat.le_refl _) _
    have ks := fun c' => str_of_RB hRB3 c'
    have HBL3 := Lib.hid hbel3
    clear hall hRB3 hbel3
    go_wp2_with fail
    clear kc hbc hbf ks
    generalize (Lib.bytesWorld w2 5 ⟨S.toArray⟩).setCell ⟨w2.heap.size, i, none⟩ (bv to) = w3 at *
    have hb23 := HBL3.out.mono hs2
    have HB3 := Lib.hid (HB2.out.trans hb23)
    have HR3 := Lib.hid (HR2.out.below hb23)
    have hs3 := HB3.out.size
    have hne : S.set i to ≠ S := by
      intro e
      apply HEQ.out
      have : (S.set i to)[i]? = S[i]? := by rw [e]
      simp [hi] at this
      exact this.symm
    have HNE := Lib.hid hne
    clear hb23 hne HBL3
    refine (read_k a k (S.set i to) w3 K H0.out (by simpa using hlb)).mono ?_
    rintro e w5 ⟨v5, er5, rfl, hb5, g1, g2⟩
    have hb35 := hb5.mono hs3
    have HB5 := Lib.hid (HB3.out.trans hb35)
    by_cases hno : (rd a k (S.set i to)).2.1 = 0
    · obtain ⟨rfl, hown5⟩ := g1 hno
      have hwr := hRW.out _ hno
      obtain ⟨A5, c5, rfl, _⟩ := own_shape hown5.own
      have hbne : (bs == (rd a k (S.set i to)).1) = false := by
        have : bs ≠ (rd a k (S.set i to)).1 := by
          intro e
          apply HNE.out
          rw [← hwr, ← e]
          exact HS.out
        simpa using this
      have hSA := same_any A A5 n _ c c5 _ _ bs _ _ (HR3.out.below hb35) (RB.of_own hown5.own)
      rw [hbne] at hSA
      have HSA5 := Lib.hid hSA
      clear g1 g2 hown5 hwr hbne hSA hb5 hb35 hno
      go_wp2_with fail
      refine HSA5.out.mono ?_
      rintro e w' ⟨rfl, rfl⟩
      go_wp2_with fail
      go_ret
      exact ⟨rfl, HB5.out⟩
    · obtain ⟨rfl, rfl⟩ := g2 hno
      clear g1 g2 hno hb5 hb35
      go_wp2_with fail
      go_ret
      exact ⟨rfl, HB5.out⟩
end Go.Proofs.Ytdlplmflimleaaa
