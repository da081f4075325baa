/- Plain: a decimal's literal is read as the decimal; noughts at both ends change nothing. The walk of DecMoves. DecMoves, for every text, noughts and way: noughts at both ends of a decimal and the point moved change nothing; Parts is bare, and comes back; conditions: none but those of the card. -/
import Derived.Test.YtjggmdlecdbeeaaGreatDoorDecZ
import Derived.Test.YtjggmdlecdbeeaaGreatDoorLitP
import Derived.Test.YtjggmdlecdbeeaaGreatDoorCalm
import Derived.Test.YtjggmdlecdbeeaaGreatDoorFltP
import Derived.Lib.SmallJoins
import Derived.Test.YtjggmdlecdbeeaaGreatDoorRows
import Derived.Test.YtjggmdlecdbeeaaGreatDoorCards
import Derived.Test.YtjggmdlecdbeeaaGreatDoorTie
import Derived.WalkKit
import Derived.ProofKit
import Derived.OpenShut
import Derived.ShutString
import Derived.ChangeOld
import Derived.Below
import Derived.SizedLaws
import Derived.LaidMore
import Derived.Lay
import Derived.SevenTiedAt
import Derived.Stop.Joined
namespace Go.Proofs.YtjggmdlecdbeeaaGreatDoor
open Go.RowKit
set_option linter.unusedVariables false
set_option linter.unusedSimpArgs false

theorem noughtsL_idem (l : List UInt8) : noughtsL (noughtsL l) = noughtsL l := by
  have h := noughtsL_head l
  cases hl : noughtsL l with
  | nil => rfl
  | cons c r =>
    rw [hl] at h
    unfold noughtsL
    rw [List.dropWhile_cons, if_neg]
    intro hc
    exact h (by rw [beq_iff_eq] at hc; rw [hc]; rfl)
theorem headP_noughts (d : Dm) : noughtsL (headP d) = noughtsL d.2.1 := by
  unfold headP
  split
  · rename_i h; rw [h]; rfl
  · exact noughtsL_idem _
theorem headP_digits {d : Dm} (h : ∀ c ∈ d.2.1, isD c = true) : ∀ c ∈ headP d, isD c = true := by
  unfold headP
  split
  · intro c hc; rw [List.mem_singleton.1 hc]; decide
  · intro c hc; exact h c (noughtsL_mem hc)
theorem headP_form (d : Dm) : headP d ≠ [] ∧ (headP d = [48] ∨ (headP d).head? ≠ some 48) := by
  unfold headP
  split
  · exact ⟨by simp, .inl rfl⟩
  · rename_i h; exact ⟨h, .inr (noughtsL_head _)⟩
theorem printP_lit (d : Dm) : printP d = litT d.1 (headP d) [] (if d.2.2 = 0 then [] else itoaS d.2.2) (if d.2.2 = 0 then [] else itoaD d.2.2) := by
  unfold printP signL litT gS pB
  rw [if_pos rfl]
  by_cases h : d.2.2 = 0
  · rw [if_pos h, if_pos h, if_pos h]
    unfold pE
    rw [if_pos rfl]
    split <;> simp
  · rw [if_neg h, if_neg h, if_neg h]
    unfold pE
    rw [if_neg (itoaD_ne _), itoa_parts]
    split <;> simp
theorem printP_ok {d : Dm} (hm : mayP d = true) : wrongP (printP d) = none ∧ bareP (printP d) = stripD d := by
  have hn := mayP_near hm
  have hL : LitT d.1 (headP d) [] (if d.2.2 = 0 then [] else itoaS d.2.2) (if d.2.2 = 0 then [] else itoaD d.2.2) :=
    ⟨headP_digits (mayP_digits hm), (headP_form d).1, (headP_form d).2, fun c hc => (by cases hc), fun c hc => by
      split at hc
      · cases hc
      · exact itoaD_digits _ c hc, by
      split
      · exact .inl rfl
      · exact itoaS_or _⟩
  obtain ⟨h1, h2⟩ := hL.parse
  rw [printP_lit]
  refine ⟨h1, ?_⟩
  rw [h2]
  have hx : (if (if d.2.2 = 0 then ([] : List UInt8) else itoaS d.2.2) = [45] ∧ (if d.2.2 = 0 then ([] : List UInt8) else itoaD d.2.2) ≠ [] then -(capE (if d.2.2 = 0 then ([] : List UInt8) else itoaD d.2.2) : Int) else (capE (if d.2.2 = 0 then ([] : List UInt8) else itoaD d.2.2) : Int)) - (([] : List UInt8).length : Int) = d.2.2 := by
    by_cases h : d.2.2 = 0
    · rw [if_pos h, if_pos h, h]; rfl
    · rw [if_neg h, if_neg h, itoa_val _ (by unfold farE; omega) (by unfold farE; omega)]; simp
  rw [hx]
  unfold stripD
  simp only [List.append_nil, headP_noughts]
theorem printP_len {d : Dm} (hm : mayP d = true) : (printP d).length ≤ d.2.1.length + 24 := by
  have hn := mayP_near hm
  have h1 := signL_len d
  have h2 := itoa_len d.2.2 (by omega) (by omega)
  unfold printP
  split
  · omega
  · rw [List.length_append, List.length_cons]; omega
theorem noughtsR_fix {l : List UInt8} (h : l.getLast? ≠ some 48) : noughtsR l = l := by
  unfold noughtsR
  have h1 : l.reverse.dropWhile (· == (48 : UInt8)) = l.reverse := by
    cases hr : l.reverse with
    | nil => rfl
    | cons c r =>
      rw [List.dropWhile_cons, if_neg]
      intro hc
      rw [beq_iff_eq] at hc
      apply h
      rw [← List.head?_reverse, hr, hc]; rfl
  rw [h1, List.reverse_reverse]
theorem noughtsL_fix {l : List UInt8} (h : l.head? ≠ some 48) : noughtsL l = l := by
  cases l with
  | nil => rfl
  | cons c r =>
    unfold noughtsL
    rw [List.dropWhile_cons, if_neg]
    intro hc
    rw [beq_iff_eq] at hc
    exact h (by rw [hc]; rfl)
theorem stripD_self {d : Dm} (h : Bare d) : stripD d = d := by
  obtain ⟨h1, h2, h3, h4⟩ := h
  unfold stripD
  simp only [noughtsL_fix h3, noughtsR_fix h4]
  split
  · rename_i h0; exact (h2 h0).symm
  · rw [show d.2.2 + (d.2.1.length : Int) - d.2.1.length = d.2.2 by omega]
theorem noughtsL_reps (a : Nat) (l : List UInt8) : noughtsL (List.replicate a 48 ++ l) = noughtsL l := by
  induction a with
  | zero => rfl
  | succ a ih =>
    rw [List.replicate_succ, List.cons_append]
    unfold noughtsL at *
    rw [List.dropWhile_cons, if_pos (by rfl), ih]
theorem noughtsR_reps (l : List UInt8) (m : Nat) : noughtsR (l ++ List.replicate m 48) = noughtsR l := by
  unfold noughtsR
  rw [List.reverse_append, List.reverse_replicate]
  have := noughtsL_reps m l.reverse
  unfold noughtsL at this
  rw [this]
/-- Noughts at both ends. -/
theorem stripD_far {g : Bool} {l : List UInt8} {x : Int} (h : Bare (g, l, x)) (a m : Nat) : stripD (g, List.replicate a 48 ++ l ++ List.replicate m 48, x - m) = (g, l, x) := by
  obtain ⟨h1, h2, h3, h4⟩ := h
  simp only at h1 h2 h3 h4
  unfold stripD
  simp only [List.append_assoc, noughtsL_reps]
  by_cases h0 : l = []
  · have := h2 h0
    injection this with e1 e2
    injection e2 with e2 e3
    subst e1 e2 e3
    have : noughtsL ([] ++ List.replicate m 48) = [] := by
      have := noughtsL_reps m []
      rwa [List.append_nil] at this
    rw [this]
    rfl
  · have hf : noughtsL (l ++ List.replicate m 48) = l ++ List.replicate m 48 := noughtsL_fix (by
      cases l with
      | nil => exact absurd rfl h0
      | cons c r => exact h3)
    rw [hf, noughtsR_reps, noughtsR_fix h4, if_neg h0]
    congr 2
    simp
    omega
theorem cmpD_same (d : Dm) : cmpD d d = 0 := cmpD_self d
theorem rep_rep (c : Nat) : Lib.repeatL [48] c = List.replicate c 48 := by
  induction c with
  | zero => rfl
  | succ c ih => rw [Lib.repeatL, ih, List.replicate_succ]; rfl
theorem repeat_any (c : Nat) (hc : c ≤ 100000) (w : World) :
    Calls Tryz.prog 20 #[.string ⟨#[48]⟩, .int .i64 c] w fun e w' => e = .returned (.string ⟨(List.replicate c 48).toArray⟩) ∧ Below w.heap.size w w' := by
  rcases Nat.lt_or_ge c 2 with h | h
  · rcases Nat.lt_or_ge c 1 with h1 | h1
    · obtain rfl : c = 0 := by omega
      exact (Tryz.strings_Repeat_zero ⟨#[48]⟩ w).mono fun e w' ⟨h1, h2⟩ => ⟨h1, by rw [h2]; exact Below.refl _ _⟩
    · obtain rfl : c = 1 := by omega
      exact (Tryz.strings_Repeat_one ⟨#[48]⟩ w).mono fun e w' ⟨h1, h2⟩ => ⟨h1, by rw [h2]; exact Below.refl _ _⟩
  · have h1 := Tryz.strings_Repeat_main ⟨#[48]⟩ c w h (by omega) (by show 1 * c ≤ _; omega) (by decide)
    have e : (⟨#[48]⟩ : ByteArray).data.toList = [48] := rfl
    rw [e, rep_rep] at h1
    exact h1
end Go.Proofs.YtjggmdlecdbeeaaGreatDoor

namespace Go.Proofs.YtjggmdlecdbeeaaGreatDoor.decMoves
open Go.RowKit
attribute [local go_sem] SGives_value SGives_skip SGives_enter CGives_value CGives_skip CGives_enter MGives_value MGives_skip MGives_enter
set_option linter.unusedSimpArgs false
set_option linter.unusedVariables false

theorem num_of (k : Nat) (hk : 0 < k) (hk9 : k ≤ 1000) (a : Int) : ∃ U r : Nat, IntKind.u64.wrap a = (U : Int) ∧ (U : Int) % (k : Int) = (r : Int) ∧ Int.tmod (U : Int) (k : Int) = (r : Int) ∧ r < k := by
  have h : IntKind.u64.wrap a = a % 18446744073709551616 := IntKind.wrap_u64 a
  have h1 : 0 ≤ a % 18446744073709551616 := Int.emod_nonneg _ (by decide)
  obtain ⟨U, hU⟩ : ∃ U : Nat, a % 18446744073709551616 = U := ⟨(a % 18446744073709551616).toNat, by omega⟩
  have h2 : (U : Int) % (k : Int) = ((U % k : Nat) : Int) := by rw [Int.natCast_emod]
  exact ⟨U, U % k, by rw [h, hU], h2, by rw [Int.tmod_eq_emod_of_nonneg (by omega)]; exact h2, Nat.mod_lt _ hk⟩
theorem same_any (er : Value) (h : er = .nilIface ∨ er = enoV 41) (w : World) :
    Calls Tryz.prog 19 #[er, er] w fun e w' => e = .returned (.bool true) ∧ Below w.heap.size w w' := by
  rcases h with rfl | rfl
  · go_enter Tryz.func19, Tryz.ntmps19
    go_wp2_with fail
    go_ret
    exact ⟨rfl, Below.refl _ _⟩
  · go_enter Tryz.func19, Tryz.ntmps19
    go_wp2_with fail
    refine (number_yes 41 _).mono ?_
    rintro e w5 ⟨rfl, rfl⟩
    go_wp2_with fail
    refine (number_yes 41 _).mono ?_
    rintro e w5 ⟨rfl, rfl⟩
    go_wp2_with fail
    go_ret
    exact ⟨rfl, Below.refl _ _⟩
theorem number_b (n : Int) (w : World) : Calls Tryz.prog 10 #[enoV n, .int .i64 n] w fun e w' => e = .returned (.bool true) ∧ Below w.heap.size w w' :=
  (number_yes n w).mono fun e w' ⟨h1, h2⟩ => ⟨h1, by rw [← h2]; exact Below.refl _ _⟩
theorem dec_same (g : Bool) (s : ByteArray) (ex : Int) (w : World) : (binOp .neq 23 (.agg #[.bool g, .string s, .int .i64 ex]) (.agg #[.bool g, .string s, .int .i64 ex])).run Tryz.prog w = .ok (.bool false) w := by
  go_simp
theorem prefix_any (l : List UInt8) (w : World) (h : l.head? ≠ some 48) : Calls Tryz.prog 16 #[.string ⟨l.toArray⟩, .string ⟨#[48]⟩] w fun e w' => e = .returned (.bool false) ∧ Below w.heap.size w w' :=
  (Tryz.strings_HasPrefix ⟨l.toArray⟩ ⟨#[48]⟩ w).mono fun e w' ⟨h1, h2⟩ => ⟨by
    rw [h1]
    congr 2
    cases l with
    | nil => rfl
    | cons c r =>
      have hc : (48 : UInt8) ≠ c := fun e => h (by rw [← e]; rfl)
      show List.isPrefixOf [48] (c :: r) = false
      simp [List.isPrefixOf, hc], by rw [h2]; exact Below.refl _ _⟩
theorem suffix_any (l : List UInt8) (w : World) (hl : l.length ≤ 140737488353000) (h : l.getLast? ≠ some 48) : Calls Tryz.prog 17 #[.string ⟨l.toArray⟩, .string ⟨#[48]⟩] w fun e w' => e = .returned (.bool false) ∧ Below w.heap.size w w' :=
  (Tryz.strings_HasSuffix ⟨l.toArray⟩ ⟨#[48]⟩ w (by rw [sv_len]; omega)).mono fun e w' ⟨h1, h2⟩ => ⟨by
    rw [h1]
    congr 2
    show List.isSuffixOf [48] l = false
    unfold List.isSuffixOf
    rw [← List.head?_reverse] at h
    show List.isPrefixOf [48] l.reverse = false
    cases hr : l.reverse with
    | nil => rfl
    | cons c r =>
      rw [hr] at h
      have hc : (48 : UInt8) ≠ c := fun e => h (by rw [← e]; rfl)
      simp [List.isPrefixOf, hc], by rw [h2]; exact Below.refl _ _⟩

set_option maxRecDepth 100000 in
set_option maxHeartbeats 4000000 in
theorem walk_far (s t : List UInt8) (A Bh Wy : Int) (w : World)
    (HLI : Go.RowKit.Hid (∀ W, Calls Tryz.prog 14 #[.string ⟨s.toArray⟩] W fun e w' => e = .returned (.string ⟨t.toArray⟩) ∧ Below W.heap.size W w'))
    (HPA : Go.RowKit.Hid (∀ W, Calls Tryz.prog 15 #[.string ⟨t.toArray⟩] W fun e w' => e = .returned (.tuple #[.agg #[.bool false, .string ⟨#[]⟩, .int .i64 0], enoV 3]) ∧ Below W.heap.size W w')) :
    Calls Tryz.prog 4 #[.agg #[.string ⟨s.toArray⟩, .int .i64 A, .int .i64 Bh, .int .i64 Wy]] w fun e w' => e = .returned (.bool true) ∧ Below w.heap.size w w' := by
  have B0 := Lib.hid (Blk.new w 44 #[.string ⟨s.toArray⟩, .int .i64 A, .int .i64 Bh, .int .i64 Wy])
  have BB := Lib.hid (below_new w (.cells #[.string ⟨s.toArray⟩, .int .i64 A, .int .i64 Bh, .int .i64 Wy] 44))
  go_enter Tryz.func4, Tryz.ntmps4
  go_wp2_with fail
  have c0_0 := B0.out.cell 0
  have c0_1 := B0.out.cell 1
  have c0_2 := B0.out.cell 2
  have c0_3 := B0.out.cell 3
  refine (HLI.out _).mono ?_
  rintro e w1 ⟨rfl, hb⟩
  clear c0_0 c0_1 c0_2 c0_3
  have B0 := Lib.hid (B0.out.st hb)
  have hbk := keepb BB.out hb
  have BB := Lib.hid hbk
  clear hb hbk
  have c0_0 := B0.out.cell 0
  have c0_1 := B0.out.cell 1
  have c0_2 := B0.out.cell 2
  have c0_3 := B0.out.cell 3
  go_wp2_with fail
  refine (HPA.out _).mono ?_
  rintro e w2 ⟨rfl, hb⟩
  clear c0_0 c0_1 c0_2 c0_3
  have B0 := Lib.hid ((B0.out.st hb).alloc (.cells #[.bool false, .string ⟨#[]⟩, .int .i64 0] 23))
  have hbk := keepb BB.out hb
  have BB := Lib.hid (hbk.alloc hbk.size (.cells #[.bool false, .string ⟨#[]⟩, .int .i64 0] 23))
  have B1 := Lib.hid (Blk.new w2 23 #[.bool false, .string ⟨#[]⟩, .int .i64 0])
  clear hb hbk
  have c0_0 := B0.out.cell 0
  have c0_1 := B0.out.cell 1
  have c0_2 := B0.out.cell 2
  have c0_3 := B0.out.cell 3
  have c1_0 := B1.out.cell 0
  have c1_1 := B1.out.cell 1
  have c1_2 := B1.out.cell 2
  go_wp2_with fail
  refine (wakes_yes _).mono ?_
  rintro e w3 ⟨rfl, hb⟩
  clear c0_0 c0_1 c0_2 c0_3 c1_0 c1_1 c1_2
  have B0 := Lib.hid (B0.out.st hb)
  have B1 := Lib.hid (B1.out.st hb)
  have hbk := keepb BB.out hb
  have BB := Lib.hid hbk
  clear hb hbk
  have c0_0 := B0.out.cell 0
  have c0_1 := B0.out.cell 1
  have c0_2 := B0.out.cell 2
  have c0_3 := B0.out.cell 3
  have c1_0 := B1.out.cell 0
  have c1_1 := B1.out.cell 1
  have c1_2 := B1.out.cell 2
  go_wp2_with fail
  refine (number_b 3 _).mono ?_
  rintro e w4 ⟨rfl, hb⟩
  clear c0_0 c0_1 c0_2 c0_3 c1_0 c1_1 c1_2
  have B0 := Lib.hid (B0.out.st hb)
  have B1 := Lib.hid (B1.out.st hb)
  have hbk := keepb BB.out hb
  have BB := Lib.hid hbk
  clear hb hbk
  have c0_0 := B0.out.cell 0
  have c0_1 := B0.out.cell 1
  have c0_2 := B0.out.cell 2
  have c0_3 := B0.out.cell 3
  have c1_0 := B1.out.cell 0
  have c1_1 := B1.out.cell 1
  have c1_2 := B1.out.cell 2
  go_wp2_with fail
  go_ret
  exact ⟨rfl, BB.out⟩

set_option maxRecDepth 100000 in
set_option maxHeartbeats 4000000 in
theorem walk_near (s t l P F PF : List UInt8) (g : Bool) (ex y A Bh Wy way : Int) (n a m U1 U2 U3 r : Nat) (er : Value) (w : World)
    (HLI : Go.RowKit.Hid (∀ W, Calls Tryz.prog 14 #[.string ⟨s.toArray⟩] W fun e w' => e = .returned (.string ⟨t.toArray⟩) ∧ Below W.heap.size W w'))
    (HPA : Go.RowKit.Hid (∀ W, Calls Tryz.prog 15 #[.string ⟨t.toArray⟩] W fun e w' => e = .returned (.tuple #[.agg #[.bool g, .string ⟨l.toArray⟩, .int .i64 ex], .nilIface]) ∧ Below W.heap.size W w'))
    (HPR : Go.RowKit.Hid (∀ W, Tab W → Calls Tryz.prog 5 #[.agg #[.bool g, .string ⟨l.toArray⟩, .int .i64 ex]] W fun e w' => e = .returned (.tuple #[.string ⟨P.toArray⟩, .nilIface]) ∧ Below W.heap.size W w'))
    (HPB : Go.RowKit.Hid (∀ W, Calls Tryz.prog 15 #[.string ⟨P.toArray⟩] W fun e w' => e = .returned (.tuple #[.agg #[.bool g, .string ⟨l.toArray⟩, .int .i64 ex], .nilIface]) ∧ Below W.heap.size W w'))
    (HHP : Go.RowKit.Hid (∀ W, Calls Tryz.prog 16 #[.string ⟨l.toArray⟩, .string ⟨#[48]⟩] W fun e w' => e = .returned (.bool false) ∧ Below W.heap.size W w'))
    (HHS : Go.RowKit.Hid (∀ W, Calls Tryz.prog 17 #[.string ⟨l.toArray⟩, .string ⟨#[48]⟩] W fun e w' => e = .returned (.bool false) ∧ Below W.heap.size W w'))
    (HRO : Go.RowKit.Hid (∀ W, Calls Tryz.prog 18 #[.string ⟨t.toArray⟩, .int .i64 way] W fun e w' => e = .returned (.tuple #[.int .u64 (n : Int), er]) ∧ Below W.heap.size W w'))
    (HVA : Go.RowKit.Hid (∀ W, Calls Tryz.prog 6 #[.agg #[.bool g, .string ⟨l.toArray⟩, .int .i64 ex], .int .i64 way] W fun e w' => e = .returned (.tuple #[.int .u64 (n : Int), er]) ∧ Below W.heap.size W w'))
    (HSM : Go.RowKit.Hid (∀ W, Calls Tryz.prog 19 #[er, er] W fun e w' => e = .returned (.bool true) ∧ Below W.heap.size W w'))
    (HRA : Go.RowKit.Hid (∀ W, Calls Tryz.prog 20 #[.string ⟨#[48]⟩, .int .i64 (a : Int)] W fun e w' => e = .returned (.string ⟨(List.replicate a 48).toArray⟩) ∧ Below W.heap.size W w'))
    (HRM : Go.RowKit.Hid (∀ W, Calls Tryz.prog 20 #[.string ⟨#[48]⟩, .int .i64 (m : Int)] W fun e w' => e = .returned (.string ⟨(List.replicate m 48).toArray⟩) ∧ Below W.heap.size W w'))
    (hF : Go.RowKit.Hid (F = List.replicate a 48 ++ l ++ List.replicate m 48)) (hy : Go.RowKit.Hid (y = ex - m))
    (HVF : Go.RowKit.Hid (-1099511627776 ≤ y → ∀ W, Calls Tryz.prog 6 #[.agg #[.bool g, .string ⟨F.toArray⟩, .int .i64 y], .int .i64 way] W fun e w' => e = .returned (.tuple #[.int .u64 (n : Int), er]) ∧ Below W.heap.size W w'))
    (HPF : Go.RowKit.Hid (-1099511627776 ≤ y → ∀ W, Tab W → Calls Tryz.prog 5 #[.agg #[.bool g, .string ⟨F.toArray⟩, .int .i64 y]] W fun e w' => e = .returned (.tuple #[.string ⟨PF.toArray⟩, .nilIface]) ∧ Below W.heap.size W w'))
    (HCM : Go.RowKit.Hid (-1099511627776 ≤ y → ∀ W, Calls Tryz.prog 21 #[.string ⟨PF.toArray⟩, .string ⟨t.toArray⟩] W fun e w' => e = .returned (.tuple #[.int .i64 0, .nilIface]) ∧ Below W.heap.size W w'))
    (HU1 : Go.RowKit.Hid (IntKind.u64.wrap Wy = (U1 : Int) ∧ (U1 : Int) % 5 = (r : Int) ∧ Int.tmod (U1 : Int) 5 = (r : Int) ∧ 1 + (r : Int) = way ∧ (r : Int) < 5))
    (HU2 : Go.RowKit.Hid (IntKind.u64.wrap Bh = (U2 : Int) ∧ (U2 : Int) % 40 = (m : Int) ∧ Int.tmod (U2 : Int) 40 = (m : Int) ∧ (m : Int) < 40))
    (HU3 : Go.RowKit.Hid (IntKind.u64.wrap A = (U3 : Int) ∧ (U3 : Int) % 40 = (a : Int) ∧ Int.tmod (U3 : Int) 40 = (a : Int) ∧ (a : Int) < 40))
    (hx : Go.RowKit.Hid (-1099511627776 ≤ ex ∧ ex ≤ 1099511627776)) (hl : Go.RowKit.Hid ((l.length : Int) ≤ 140737488353000)) (ht : Go.RowKit.Hid (Tab w)) :
    Calls Tryz.prog 4 #[.agg #[.string ⟨s.toArray⟩, .int .i64 A, .int .i64 Bh, .int .i64 Wy]] w fun e w' => e = .returned (.bool true) ∧ Below w.heap.size w w' := by
  have B0 := Lib.hid (Blk.new w 44 #[.string ⟨s.toArray⟩, .int .i64 A, .int .i64 Bh, .int .i64 Wy])
  have BB := Lib.hid (below_new w (.cells #[.string ⟨s.toArray⟩, .int .i64 A, .int .i64 Bh, .int .i64 Wy] 44))
  have hds := dec_same g ⟨l.toArray⟩ ex
  have tc : ((n : Int) == (n : Int)) = true := by simp
  have tc' : ((n : Int) != (n : Int)) = false := by simp
  go_enter Tryz.func4, Tryz.ntmps4
  go_wp2_with fail
  have c0_0 := B0.out.cell 0
  have c0_1 := B0.out.cell 1
  have c0_2 := B0.out.cell 2
  have c0_3 := B0.out.cell 3
  refine (HLI.out _).mono ?_
  rintro e w1 ⟨rfl, hb⟩
  clear c0_0 c0_1 c0_2 c0_3
  have B0 := Lib.hid (B0.out.st hb)
  have hbk := keepb BB.out hb
  have BB := Lib.hid hbk
  clear hb hbk
  have c0_0 := B0.out.cell 0
  have c0_1 := B0.out.cell 1
  have c0_2 := B0.out.cell 2
  have c0_3 := B0.out.cell 3
  go_wp2_with fail
  refine (HPA.out _).mono ?_
  rintro e w2 ⟨rfl, hb⟩
  clear c0_0 c0_1 c0_2 c0_3
  have B0 := Lib.hid ((B0.out.st hb).alloc (.cells #[.bool g, .string ⟨l.toArray⟩, .int .i64 ex] 23))
  have hbk := keepb BB.out hb
  have BB := Lib.hid (hbk.alloc hbk.size (.cells #[.bool g, .string ⟨l.toArray⟩, .int .i64 ex] 23))
  have B1 := Lib.hid (Blk.new w2 23 #[.bool g, .string ⟨l.toArray⟩, .int .i64 ex])
  clear hb hbk
  have c0_0 := B0.out.cell 0
  have c0_1 := B0.out.cell 1
  have c0_2 := B0.out.cell 2
  have c0_3 := B0.out.cell 3
  have c1_0 := B1.out.cell 0
  have c1_1 := B1.out.cell 1
  have c1_2 := B1.out.cell 2
  go_wp2_with fail
  refine (wakes_yes _).mono ?_
  rintro e w3 ⟨rfl, hb⟩
  clear c0_0 c0_1 c0_2 c0_3 c1_0 c1_1 c1_2
  have B0 := Lib.hid (B0.out.st hb)
  have B1 := Lib.hid (B1.out.st hb)
  have hbk := keepb BB.out hb
  have BB := Lib.hid hbk
  clear hb hbk
  have c0_0 := B0.out.cell 0
  have c0_1 := B0.out.cell 1
  have c0_2 := B0.out.cell 2
  have c0_3 := B0.out.cell 3
  have c1_0 := B1.out.cell 0
  have c1_1 := B1.out.cell 1
  have c1_2 := B1.out.cell 2
  go_wp2_with fail
  refine (HPR.out _ (ht.out.below BB.out)).mono ?_
  rintro e w4 ⟨rfl, hb⟩
  clear c0_0 c0_1 c0_2 c0_3 c1_0 c1_1 c1_2
  have B0 := Lib.hid (B0.out.st hb)
  have B1 := Lib.hid (B1.out.st hb)
  have hbk := keepb BB.out hb
  have BB := Lib.hid hbk
  clear hb hbk
  have c0_0 := B0.out.cell 0
  have c0_1 := B0.out.cell 1
  have c0_2 := B0.out.cell 2
  have c0_3 := B0.out.cell 3
  have c1_0 := B1.out.cell 0
  have c1_1 := B1.out.cell 1
  have c1_2 := B1.out.cell 2
  go_wp2_with fail
  refine (HPB.out _).mono ?_
  rintro e w5 ⟨rfl, hb⟩
  clear c0_0 c0_1 c0_2 c0_3 c1_0 c1_1 c1_2
  have B0 := Lib.hid ((B0.out.st hb).alloc (.cells #[.bool g, .string ⟨l.toArray⟩, .int .i64 ex] 23))
  have B1 := Lib.hid ((B1.out.st hb).alloc (.cells #[.bool g, .string ⟨l.toArray⟩, .int .i64 ex] 23))
  have hbk := keepb BB.out hb
  have BB := Lib.hid (hbk.alloc hbk.size (.cells #[.bool g, .string ⟨l.toArray⟩, .int .i64 ex] 23))
  have B2 := Lib.hid (Blk.new w5 23 #[.bool g, .string ⟨l.toArray⟩, .int .i64 ex])
  clear hb hbk
  have c0_0 := B0.out.cell 0
  have c0_1 := B0.out.cell 1
  have c0_2 := B0.out.cell 2
  have c0_3 := B0.out.cell 3
  have c1_0 := B1.out.cell 0
  have c1_1 := B1.out.cell 1
  have c1_2 := B1.out.cell 2
  have c2_0 := B2.out.cell 0
  have c2_1 := B2.out.cell 1
  have c2_2 := B2.out.cell 2
  go_wp2_with fail
  refine (HHP.out _).mono ?_
  rintro e w6 ⟨rfl, hb⟩
  clear c0_0 c0_1 c0_2 c0_3 c1_0 c1_1 c1_2 c2_0 c2_1 c2_2
  have B0 := Lib.hid (B0.out.st hb)
  have B1 := Lib.hid (B1.out.st hb)
  have B2 := Lib.hid (B2.out.st hb)
  have hbk := keepb BB.out hb
  have BB := Lib.hid hbk
  clear hb hbk
  have c0_0 := B0.out.cell 0
  have c0_1 := B0.out.cell 1
  have c0_2 := B0.out.cell 2
  have c0_3 := B0.out.cell 3
  have c1_0 := B1.out.cell 0
  have c1_1 := B1.out.cell 1
  have c1_2 := B1.out.cell 2
  have c2_0 := B2.out.cell 0
  have c2_1 := B2.out.cell 1
  have c2_2 := B2.out.cell 2
  go_wp2_with fail
  refine (HHS.out _).mono ?_
  rintro e w7 ⟨rfl, hb⟩
  clear c0_0 c0_1 c0_2 c0_3 c1_0 c1_1 c1_2 c2_0 c2_1 c2_2
  have B0 := Lib.hid (B0.out.st hb)
  have B1 := Lib.hid (B1.out.st hb)
  have B2 := Lib.hid (B2.out.st hb)
  have hbk := keepb BB.out hb
  have BB := Lib.hid hbk
  clear hb hbk
  have c0_0 := B0.out.cell 0
  have c0_1 := B0.out.cell 1
  have c0_2 := B0.out.cell 2
  have c0_3 := B0.out.cell 3
  have c1_0 := B1.out.cell 0
  have c1_1 := B1.out.cell 1
  have c1_2 := B1.out.cell 2
  have c2_0 := B2.out.cell 0
  have c2_1 := B2.out.cell 1
  have c2_2 := B2.out.cell 2
  go_upto_region 13 with fail
  obtain ⟨q1, q2, q3, q4, q5⟩ := HU1.out
  have kr : IntKind.i64.wrap (r : Int) = (r : Int) := IntWalk.i64_in _ (by omega)
  have kw : IntKind.i64.wrap (1 + (r : Int)) = way := by rw [q4]; exact IntWalk.i64_in _ (by omega)
  go_upto_region 14 with fail
  clear q1 q2 q3 q4 q5 kr kw
  go_wp2_with fail
  refine (HRO.out _).mono ?_
  rintro e w8 ⟨rfl, hb⟩
  clear c0_0 c0_1 c0_2 c0_3 c1_0 c1_1 c1_2 c2_0 c2_1 c2_2
  have B0 := Lib.hid (B0.out.st hb)
  have B1 := Lib.hid (B1.out.st hb)
  have B2 := Lib.hid (B2.out.st hb)
  have hbk := keepb BB.out hb
  have BB := Lib.hid hbk
  clear hb hbk
  have c0_0 := B0.out.cell 0
  have c0_1 := B0.out.cell 1
  have c0_2 := B0.out.cell 2
  have c0_3 := B0.out.cell 3
  have c1_0 := B1.out.cell 0
  have c1_1 := B1.out.cell 1
  have c1_2 := B1.out.cell 2
  have c2_0 := B2.out.cell 0
  have c2_1 := B2.out.cell 1
  have c2_2 := B2.out.cell 2
  go_wp2_with fail
  refine (HVA.out _).mono ?_
  rintro e w9 ⟨rfl, hb⟩
  clear c0_0 c0_1 c0_2 c0_3 c1_0 c1_1 c1_2 c2_0 c2_1 c2_2
  have B0 := Lib.hid (B0.out.st hb)
  have B1 := Lib.hid (B1.out.st hb)
  have B2 := Lib.hid (B2.out.st hb)
  have hbk := keepb BB.out hb
  have BB := Lib.hid hbk
  clear hb hbk
  have c0_0 := B0.out.cell 0
  have c0_1 := B0.out.cell 1
  have c0_2 := B0.out.cell 2
  have c0_3 := B0.out.cell 3
  have c1_0 := B1.out.cell 0
  have c1_1 := B1.out.cell 1
  have c1_2 := B1.out.cell 2
  have c2_0 := B2.out.cell 0
  have c2_1 := B2.out.cell 1
  have c2_2 := B2.out.cell 2
  go_wp2_with fail
  refine (HSM.out _).mono ?_
  rintro e w10 ⟨rfl, hb⟩
  clear c0_0 c0_1 c0_2 c0_3 c1_0 c1_1 c1_2 c2_0 c2_1 c2_2
  have B0 := Lib.hid (B0.out.st hb)
  have B1 := Lib.hid (B1.out.st hb)
  have B2 := Lib.hid (B2.out.st hb)
  have hbk := keepb BB.out hb
  have BB := Lib.hid hbk
  clear hb hbk
  have c0_0 := B0.out.cell 0
  have c0_1 := B0.out.cell 1
  have c0_2 := B0.out.cell 2
  have c0_3 := B0.out.cell 3
  have c1_0 := B1.out.cell 0
  have c1_1 := B1.out.cell 1
  have c1_2 := B1.out.cell 2
  have c2_0 := B2.out.cell 0
  have c2_1 := B2.out.cell 1
  have c2_2 := B2.out.cell 2
  go_upto_region 18 with fail
  obtain ⟨q1, q2, q3, q5⟩ := HU2.out
  have kr : IntKind.i64.wrap (m : Int) = (m : Int) := IntWalk.i64_in _ (by omega)
  go_upto_region 19 with fail
  clear q1 q2 q3 kr
  obtain ⟨hx1, hx2⟩ := hx.out
  have ky : ex - (m : Int) = y := hy.out.symm
  have ky' : IntKind.i64.wrap (ex - (m : Int)) = y := by rw [ky]; exact IntWalk.i64_in _ (by omega)
  have kyy : IntKind.i64.wrap y = y := IntWalk.i64_in _ (by omega)
  by_cases hyn : y < -1099511627776
  · have t1 : decide (y < -1099511627776) = true := decide_eq_true hyn
    clear hyn
    go_wp2_with fail
    go_ret
    exact ⟨rfl, BB.out⟩
  have t1 : decide (y < -1099511627776) = false := decide_eq_false hyn
  have hyl : -1099511627776 ≤ y := by omega
  have HVF' := Lib.hid (HVF.out hyl)
  have HPF' := Lib.hid (HPF.out hyl)
  have HCM' := Lib.hid (HCM.out hyl)
  clear hyn
  go_upto_region 21 with fail
  clear t1
  obtain ⟨q1, q2, q3, q4⟩ := HU3.out
  have kr : IntKind.i64.wrap (a : Int) = (a : Int) := IntWalk.i64_in _ (by omega)
  have la : (((List.replicate a (48 : UInt8)).length : Nat) : Int) < 40 := by rw [List.length_replicate]; exact q4
  have lm : (((List.replicate m (48 : UInt8)).length : Nat) : Int) < 40 := by rw [List.length_replicate]; exact q5
  have hlI := hl.out
  have hFF := hF.out
  have k1 := sv_cat (List.replicate a 48) l
  have k2 := sv_cat (List.replicate a 48 ++ l) (List.replicate m 48)
  rw [← hFF] at k2
  have lal : ((((List.replicate a (48 : UInt8)) ++ l).length : Nat) : Int) ≤ 140737488353040 := by rw [List.length_append]; omega
  have n1 : (9223372036854775807 < (List.replicate a (48 : UInt8)).length + l.length) = False := eq_false (by omega)
  have n2 : (9223372036854775807 < (List.replicate a (48 : UInt8) ++ l).length + (List.replicate m (48 : UInt8)).length) = False := eq_false (by omega)
  clear hFF
  generalize List.replicate a (48 : UInt8) ++ l = Z at *
  generalize List.replicate a (48 : UInt8) = RA at *
  generalize List.replicate m (48 : UInt8) = RM at *
  clear c0_0 c0_1 c0_2 c0_3 c1_0 c1_1 c1_2 c2_0 c2_1 c2_2
  have SDL : w.heap.size ≤ w.heap.size := by first | exact Nat.le_refl _ | omega | (simp; done)
  obtain ⟨S, SD⟩ : ∃ S : World → Prop, Go.RowKit.Hid (∀ w' : World, S w' ↔ (Blk w' w.heap.size 44 #[.string ⟨s.toArray⟩, .int .i64 A, .int .i64 Bh, .int .i64 Wy] ∧ Blk w' w2.heap.size 23 #[.bool g, .string ⟨l.toArray⟩, .int .i64 ex] ∧ Blk w' w5.heap.size 23 #[.bool g, .string ⟨l.toArray⟩, .int .i64 ex] ∧ Below w.heap.size w w')) := ⟨_, Lib.hid (fun _ => Iff.rfl)⟩
  refine wp_region_way (S := S) (by kernel_rfl) (by kernel_rfl) (fun W W' h hb => by obtain ⟨h0, h1, h2, hB⟩ := (SD.out _).1 h; exact (SD.out _).2 ⟨h0.st hb, h1.st hb, h2.st hb, hB.trans (hb.mono (Nat.le_trans SDL hB.size))⟩) ((SD.out _).2 (⟨B0.out, B1.out, B2.out, BB.out.drew⟩)) ?_
  first
    | (refine Way.no 0 (by rfl) (by kernel_rfl) (by rfl) ?_; simp only [Act.put, List.setIfInBounds_toArray, List.set_cons_zero, List.set_cons_succ])
    | (refine' Way.yes 0 (by rfl) (by kernel_rfl) (by rfl) (fun wS hS => ?_) ?_
       rotate_left
       · have hS' := (SD.out _).1 hS
         obtain ⟨hb0, hb1, hb2, hB⟩ := hS'
         have c0_0 := hb0.cell 0
         have c0_1 := hb0.cell 1
         have c0_2 := hb0.cell 2
         have c0_3 := hb0.cell 3
         have c1_0 := hb1.cell 0
         have c1_1 := hb1.cell 1
         have c1_2 := hb1.cell 2
         have c2_0 := hb2.cell 0
         have c2_1 := hb2.cell 1
         have c2_2 := hb2.cell 2
         go_simp
         first
           | exact ⟨rfl, Below.refl _ _⟩
           | (with_reducible refine (HRA.out _).mono ?_; rintro e w' ⟨rfl, hbn⟩; exact ⟨rfl, hbn⟩)
           | (with_reducible refine (HRM.out _).mono ?_; rintro e w' ⟨rfl, hbn⟩; exact ⟨rfl, hbn⟩)
       simp only [Act.put, List.setIfInBounds_toArray, List.set_cons_zero, List.set_cons_succ])
  first
    | (refine Way.no 1 (by rfl) (by kernel_rfl) (by rfl) ?_; simp only [Act.put, List.setIfInBounds_toArray, List.set_cons_zero, List.set_cons_succ])
    | (refine' Way.yes 1 (by rfl) (by kernel_rfl) (by rfl) (fun wS hS => ?_) ?_
       rotate_left
       · have hS' := (SD.out _).1 hS
         obtain ⟨hb0, hb1, hb2, hB⟩ := hS'
         have c0_0 := hb0.cell 0
         have c0_1 := hb0.cell 1
         have c0_2 := hb0.cell 2
         have c0_3 := hb0.cell 3
         have c1_0 := hb1.cell 0
         have c1_1 := hb1.cell 1
         have c1_2 := hb1.cell 2
         have c2_0 := hb2.cell 0
         have c2_1 := hb2.cell 1
         have c2_2 := hb2.cell 2
         go_simp
         first
           | exact ⟨rfl, Below.refl _ _⟩
           | (with_reducible refine (HRA.out _).mono ?_; rintro e w' ⟨rfl, hbn⟩; exact ⟨rfl, hbn⟩)
           | (with_reducible refine (HRM.out _).mono ?_; rintro e w' ⟨rfl, hbn⟩; exact ⟨rfl, hbn⟩)
       simp only [Act.put, List.setIfInBounds_toArray, List.set_cons_zero, List.set_cons_succ])
  first
    | (refine Way.no 2 (by rfl) (by kernel_rfl) (by rfl) ?_; simp only [Act.put, List.setIfInBounds_toArray, List.set_cons_zero, List.set_cons_succ])
    | (refine' Way.yes 2 (by rfl) (by kernel_rfl) (by rfl) (fun wS hS => ?_) ?_
       rotate_left
       · have hS' := (SD.out _).1 hS
         obtain ⟨hb0, hb1, hb2, hB⟩ := hS'
         have c0_0 := hb0.cell 0
         have c0_1 := hb0.cell 1
         have c0_2 := hb0.cell 2
         have c0_3 := hb0.cell 3
         have c1_0 := hb1.cell 0
         have c1_1 := hb1.cell 1
         have c1_2 := hb1.cell 2
         have c2_0 := hb2.cell 0
         have c2_1 := hb2.cell 1
         have c2_2 := hb2.cell 2
         go_simp
         first
           | exact ⟨rfl, Below.refl _ _⟩
           | (with_reducible refine (HRA.out _).mono ?_; rintro e w' ⟨rfl, hbn⟩; exact ⟨rfl, hbn⟩)
           | (with_reducible refine (HRM.out _).mono ?_; rintro e w' ⟨rfl, hbn⟩; exact ⟨rfl, hbn⟩)
       simp only [Act.put, List.setIfInBounds_toArray, List.set_cons_zero, List.set_cons_succ])
  first
    | (refine Way.no 3 (by rfl) (by kernel_rfl) (by rfl) ?_; simp only [Act.put, List.setIfInBounds_toArray, List.set_cons_zero, List.set_cons_succ])
    | (refine' Way.yes 3 (by rfl) (by kernel_rfl) (by rfl) (fun wS hS => ?_) ?_
       rotate_left
       · have hS' := (SD.out _).1 hS
         obtain ⟨hb0, hb1, hb2, hB⟩ := hS'
         have c0_0 := hb0.cell 0
         have c0_1 := hb0.cell 1
         have c0_2 := hb0.cell 2
         have c0_3 := hb0.cell 3
         have c1_0 := hb1.cell 0
         have c1_1 := hb1.cell 1
         have c1_2 := hb1.cell 2
         have c2_0 := hb2.cell 0
         have c2_1 := hb2.cell 1
         have c2_2 := hb2.cell 2
         go_simp
         first
           | exact ⟨rfl, Below.refl _ _⟩
           | (with_reducible refine (HRA.out _).mono ?_; rintro e w' ⟨rfl, hbn⟩; exact ⟨rfl, hbn⟩)
           | (with_reducible refine (HRM.out _).mono ?_; rintro e w' ⟨rfl, hbn⟩; exact ⟨rfl, hbn⟩)
       simp only [Act.put, List.setIfInBounds_toArray, List.set_cons_zero, List.set_cons_succ])
  first
    | (refine Way.no 4 (by rfl) (by kernel_rfl) (by rfl) ?_; simp only [Act.put, List.setIfInBounds_toArray, List.set_cons_zero, List.set_cons_succ])
    | (refine' Way.yes 4 (by rfl) (by kernel_rfl) (by rfl) (fun wS hS => ?_) ?_
       rotate_left
       · have hS' := (SD.out _).1 hS
         obtain ⟨hb0, hb1, hb2, hB⟩ := hS'
         have c0_0 := hb0.cell 0
         have c0_1 := hb0.cell 1
         have c0_2 := hb0.cell 2
         have c0_3 := hb0.cell 3
         have c1_0 := hb1.cell 0
         have c1_1 := hb1.cell 1
         have c1_2 := hb1.cell 2
         have c2_0 := hb2.cell 0
         have c2_1 := hb2.cell 1
         have c2_2 := hb2.cell 2
         go_simp
         first
           | exact ⟨rfl, Below.refl _ _⟩
           | (with_reducible refine (HRA.out _).mono ?_; rintro e w' ⟨rfl, hbn⟩; exact ⟨rfl, hbn⟩)
           | (with_reducible refine (HRM.out _).mono ?_; rintro e w' ⟨rfl, hbn⟩; exact ⟨rfl, hbn⟩)
       simp only [Act.put, List.setIfInBounds_toArray, List.set_cons_zero, List.set_cons_succ])
  first
    | (refine Way.no 5 (by rfl) (by kernel_rfl) (by rfl) ?_; simp only [Act.put, List.setIfInBounds_toArray, List.set_cons_zero, List.set_cons_succ])
    | (refine' Way.yes 5 (by rfl) (by kernel_rfl) (by rfl) (fun wS hS => ?_) ?_
       rotate_left
       · have hS' := (SD.out _).1 hS
         obtain ⟨hb0, hb1, hb2, hB⟩ := hS'
         have c0_0 := hb0.cell 0
         have c0_1 := hb0.cell 1
         have c0_2 := hb0.cell 2
         have c0_3 := hb0.cell 3
         have c1_0 := hb1.cell 0
         have c1_1 := hb1.cell 1
         have c1_2 := hb1.cell 2
         have c2_0 := hb2.cell 0
         have c2_1 := hb2.cell 1
         have c2_2 := hb2.cell 2
         go_simp
         first
           | exact ⟨rfl, Below.refl _ _⟩
           | (with_reducible refine (HRA.out _).mono ?_; rintro e w' ⟨rfl, hbn⟩; exact ⟨rfl, hbn⟩)
           | (with_reducible refine (HRM.out _).mono ?_; rintro e w' ⟨rfl, hbn⟩; exact ⟨rfl, hbn⟩)
       simp only [Act.put, List.setIfInBounds_toArray, List.set_cons_zero, List.set_cons_succ])
  first
    | (refine Way.no 6 (by rfl) (by kernel_rfl) (by rfl) ?_; simp only [Act.put, List.setIfInBounds_toArray, List.set_cons_zero, List.set_cons_succ])
    | (refine' Way.yes 6 (by rfl) (by kernel_rfl) (by rfl) (fun wS hS => ?_) ?_
       rotate_left
       · have hS' := (SD.out _).1 hS
         obtain ⟨hb0, hb1, hb2, hB⟩ := hS'
         have c0_0 := hb0.cell 0
         have c0_1 := hb0.cell 1
         have c0_2 := hb0.cell 2
         have c0_3 := hb0.cell 3
         have c1_0 := hb1.cell 0
         have c1_1 := hb1.cell 1
         have c1_2 := hb1.cell 2
         have c2_0 := hb2.cell 0
         have c2_1 := hb2.cell 1
         have c2_2 := hb2.cell 2
         go_simp
         first
           | exact ⟨rfl, Below.refl _ _⟩
           | (with_reducible refine (HRA.out _).mono ?_; rintro e w' ⟨rfl, hbn⟩; exact ⟨rfl, hbn⟩)
           | (with_reducible refine (HRM.out _).mono ?_; rintro e w' ⟨rfl, hbn⟩; exact ⟨rfl, hbn⟩)
       simp only [Act.put, List.setIfInBounds_toArray, List.set_cons_zero, List.set_cons_succ])
  first
    | (refine Way.no 7 (by rfl) (by kernel_rfl) (by rfl) ?_; simp only [Act.put, List.setIfInBounds_toArray, List.set_cons_zero, List.set_cons_succ])
    | (refine' Way.yes 7 (by rfl) (by kernel_rfl) (by rfl) (fun wS hS => ?_) ?_
       rotate_left
       · have hS' := (SD.out _).1 hS
         obtain ⟨hb0, hb1, hb2, hB⟩ := hS'
         have c0_0 := hb0.cell 0
         have c0_1 := hb0.cell 1
         have c0_2 := hb0.cell 2
         have c0_3 := hb0.cell 3
         have c1_0 := hb1.cell 0
         have c1_1 := hb1.cell 1
         have c1_2 := hb1.cell 2
         have c2_0 := hb2.cell 0
         have c2_1 := hb2.cell 1
         have c2_2 := hb2.cell 2
         go_simp
         first
           | exact ⟨rfl, Below.refl _ _⟩
           | (with_reducible refine (HRA.out _).mono ?_; rintro e w' ⟨rfl, hbn⟩; exact ⟨rfl, hbn⟩)
           | (with_reducible refine (HRM.out _).mono ?_; rintro e w' ⟨rfl, hbn⟩; exact ⟨rfl, hbn⟩)
       simp only [Act.put, List.setIfInBounds_toArray, List.set_cons_zero, List.set_cons_succ])
  first
    | (refine Way.no 8 (by rfl) (by kernel_rfl) (by rfl) ?_; simp only [Act.put, List.setIfInBounds_toArray, List.set_cons_zero, List.set_cons_succ])
    | (refine' Way.yes 8 (by rfl) (by kernel_rfl) (by rfl) (fun wS hS => ?_) ?_
       rotate_left
       · have hS' := (SD.out _).1 hS
         obtain ⟨hb0, hb1, hb2, hB⟩ := hS'
         have c0_0 := hb0.cell 0
         have c0_1 := hb0.cell 1
         have c0_2 := hb0.cell 2
         have c0_3 := hb0.cell 3
         have c1_0 := hb1.cell 0
         have c1_1 := hb1.cell 1
         have c1_2 := hb1.cell 2
         have c2_0 := hb2.cell 0
         have c2_1 := hb2.cell 1
         have c2_2 := hb2.cell 2
         go_simp
         first
           | exact ⟨rfl, Below.refl _ _⟩
           | (with_reducible refine (HRA.out _).mono ?_; rintro e w' ⟨rfl, hbn⟩; exact ⟨rfl, hbn⟩)
           | (with_reducible refine (HRM.out _).mono ?_; rintro e w' ⟨rfl, hbn⟩; exact ⟨rfl, hbn⟩)
       simp only [Act.put, List.setIfInBounds_toArray, List.set_cons_zero, List.set_cons_succ])
  first
    | (refine Way.no 9 (by rfl) (by kernel_rfl) (by rfl) ?_; simp only [Act.put, List.setIfInBounds_toArray, List.set_cons_zero, List.set_cons_succ])
    | (refine' Way.yes 9 (by rfl) (by kernel_rfl) (by rfl) (fun wS hS => ?_) ?_
       rotate_left
       · have hS' := (SD.out _).1 hS
         obtain ⟨hb0, hb1, hb2, hB⟩ := hS'
         have c0_0 := hb0.cell 0
         have c0_1 := hb0.cell 1
         have c0_2 := hb0.cell 2
         have c0_3 := hb0.cell 3
         have c1_0 := hb1.cell 0
         have c1_1 := hb1.cell 1
         have c1_2 := hb1.cell 2
         have c2_0 := hb2.cell 0
         have c2_1 := hb2.cell 1
         have c2_2 := hb2.cell 2
         go_simp
         first
           | exact ⟨rfl, Below.refl _ _⟩
           | (with_reducible refine (HRA.out _).mono ?_; rintro e w' ⟨rfl, hbn⟩; exact ⟨rfl, hbn⟩)
           | (with_reducible refine (HRM.out _).mono ?_; rintro e w' ⟨rfl, hbn⟩; exact ⟨rfl, hbn⟩)
       simp only [Act.put, List.setIfInBounds_toArray, List.set_cons_zero, List.set_cons_succ])
  first
    | (refine Way.no 10 (by rfl) (by kernel_rfl) (by rfl) ?_; simp only [Act.put, List.setIfInBounds_toArray, List.set_cons_zero, List.set_cons_succ])
    | (refine' Way.yes 10 (by rfl) (by kernel_rfl) (by rfl) (fun wS hS => ?_) ?_
       rotate_left
       · have hS' := (SD.out _).1 hS
         obtain ⟨hb0, hb1, hb2, hB⟩ := hS'
         have c0_0 := hb0.cell 0
         have c0_1 := hb0.cell 1
         have c0_2 := hb0.cell 2
         have c0_3 := hb0.cell 3
         have c1_0 := hb1.cell 0
         have c1_1 := hb1.cell 1
         have c1_2 := hb1.cell 2
         have c2_0 := hb2.cell 0
         have c2_1 := hb2.cell 1
         have c2_2 := hb2.cell 2
         go_simp
         first
           | exact ⟨rfl, Below.refl _ _⟩
           | (with_reducible refine (HRA.out _).mono ?_; rintro e w' ⟨rfl, hbn⟩; exact ⟨rfl, hbn⟩)
           | (with_reducible refine (HRM.out _).mono ?_; rintro e w' ⟨rfl, hbn⟩; exact ⟨rfl, hbn⟩)
       simp only [Act.put, List.setIfInBounds_toArray, List.set_cons_zero, List.set_cons_succ])
  first
    | (refine Way.no 11 (by rfl) (by kernel_rfl) (by rfl) ?_; simp only [Act.put, List.setIfInBounds_toArray, List.set_cons_zero, List.set_cons_succ])
    | (refine' Way.yes 11 (by rfl) (by kernel_rfl) (by rfl) (fun wS hS => ?_) ?_
       rotate_left
       · have hS' := (SD.out _).1 hS
         obtain ⟨hb0, hb1, hb2, hB⟩ := hS'
         have c0_0 := hb0.cell 0
         have c0_1 := hb0.cell 1
         have c0_2 := hb0.cell 2
         have c0_3 := hb0.cell 3
         have c1_0 := hb1.cell 0
         have c1_1 := hb1.cell 1
         have c1_2 := hb1.cell 2
         have c2_0 := hb2.cell 0
         have c2_1 := hb2.cell 1
         have c2_2 := hb2.cell 2
         go_simp
         first
           | exact ⟨rfl, Below.refl _ _⟩
           | (with_reducible refine (HRA.out _).mono ?_; rintro e w' ⟨rfl, hbn⟩; exact ⟨rfl, hbn⟩)
           | (with_reducible refine (HRM.out _).mono ?_; rintro e w' ⟨rfl, hbn⟩; exact ⟨rfl, hbn⟩)
       simp only [Act.put, List.setIfInBounds_toArray, List.set_cons_zero, List.set_cons_succ])
  first
    | (refine Way.no 12 (by rfl) (by kernel_rfl) (by rfl) ?_; simp only [Act.put, List.setIfInBounds_toArray, List.set_cons_zero, List.set_cons_succ])
    | (refine' Way.yes 12 (by rfl) (by kernel_rfl) (by rfl) (fun wS hS => ?_) ?_
       rotate_left
       · have hS' := (SD.out _).1 hS
         obtain ⟨hb0, hb1, hb2, hB⟩ := hS'
         have c0_0 := hb0.cell 0
         have c0_1 := hb0.cell 1
         have c0_2 := hb0.cell 2
         have c0_3 := hb0.cell 3
         have c1_0 := hb1.cell 0
         have c1_1 := hb1.cell 1
         have c1_2 := hb1.cell 2
         have c2_0 := hb2.cell 0
         have c2_1 := hb2.cell 1
         have c2_2 := hb2.cell 2
         go_simp
         first
           | exact ⟨rfl, Below.refl _ _⟩
           | (with_reducible refine (HRA.out _).mono ?_; rintro e w' ⟨rfl, hbn⟩; exact ⟨rfl, hbn⟩)
           | (with_reducible refine (HRM.out _).mono ?_; rintro e w' ⟨rfl, hbn⟩; exact ⟨rfl, hbn⟩)
       simp only [Act.put, List.setIfInBounds_toArray, List.set_cons_zero, List.set_cons_succ])
  first
    | (refine Way.no 13 (by rfl) (by kernel_rfl) (by rfl) ?_; simp only [Act.put, List.setIfInBounds_toArray, List.set_cons_zero, List.set_cons_succ])
    | (refine' Way.yes 13 (by rfl) (by kernel_rfl) (by rfl) (fun wS hS => ?_) ?_
       rotate_left
       · have hS' := (SD.out _).1 hS
         obtain ⟨hb0, hb1, hb2, hB⟩ := hS'
         have c0_0 := hb0.cell 0
         have c0_1 := hb0.cell 1
         have c0_2 := hb0.cell 2
         have c0_3 := hb0.cell 3
         have c1_0 := hb1.cell 0
         have c1_1 := hb1.cell 1
         have c1_2 := hb1.cell 2
         have c2_0 := hb2.cell 0
         have c2_1 := hb2.cell 1
         have c2_2 := hb2.cell 2
         go_simp
         first
           | exact ⟨rfl, Below.refl _ _⟩
           | (with_reducible refine (HRA.out _).mono ?_; rintro e w' ⟨rfl, hbn⟩; exact ⟨rfl, hbn⟩)
           | (with_reducible refine (HRM.out _).mono ?_; rintro e w' ⟨rfl, hbn⟩; exact ⟨rfl, hbn⟩)
       simp only [Act.put, List.setIfInBounds_toArray, List.set_cons_zero, List.set_cons_succ])
  first
    | (refine Way.no 14 (by rfl) (by kernel_rfl) (by rfl) ?_; simp only [Act.put, List.setIfInBounds_toArray, List.set_cons_zero, List.set_cons_succ])
    | (refine' Way.yes 14 (by rfl) (by kernel_rfl) (by rfl) (fun wS hS => ?_) ?_
       rotate_left
       · have hS' := (SD.out _).1 hS
         obtain ⟨hb0, hb1, hb2, hB⟩ := hS'
         have c0_0 := hb0.cell 0
         have c0_1 := hb0.cell 1
         have c0_2 := hb0.cell 2
         have c0_3 := hb0.cell 3
         have c1_0 := hb1.cell 0
         have c1_1 := hb1.cell 1
         have c1_2 := hb1.cell 2
         have c2_0 := hb2.cell 0
         have c2_1 := hb2.cell 1
         have c2_2 := hb2.cell 2
         go_simp
         first
           | exact ⟨rfl, Below.refl _ _⟩
           | (with_reducible refine (HRA.out _).mono ?_; rintro e w' ⟨rfl, hbn⟩; exact ⟨rfl, hbn⟩)
           | (with_reducible refine (HRM.out _).mono ?_; rintro e w' ⟨rfl, hbn⟩; exact ⟨rfl, hbn⟩)
       simp only [Act.put, List.setIfInBounds_toArray, List.set_cons_zero, List.set_cons_succ])
  first
    | (refine Way.no 15 (by rfl) (by kernel_rfl) (by rfl) ?_; simp only [Act.put, List.setIfInBounds_toArray, List.set_cons_zero, List.set_cons_succ])
    | (refine' Way.yes 15 (by rfl) (by kernel_rfl) (by rfl) (fun wS hS => ?_) ?_
       rotate_left
       · have hS' := (SD.out _).1 hS
         obtain ⟨hb0, hb1, hb2, hB⟩ := hS'
         have c0_0 := hb0.cell 0
         have c0_1 := hb0.cell 1
         have c0_2 := hb0.cell 2
         have c0_3 := hb0.cell 3
         have c1_0 := hb1.cell 0
         have c1_1 := hb1.cell 1
         have c1_2 := hb1.cell 2
         have c2_0 := hb2.cell 0
         have c2_1 := hb2.cell 1
         have c2_2 := hb2.cell 2
         go_simp
         first
           | exact ⟨rfl, Below.refl _ _⟩
           | (with_reducible refine (HRA.out _).mono ?_; rintro e w' ⟨rfl, hbn⟩; exact ⟨rfl, hbn⟩)
           | (with_reducible refine (HRM.out _).mono ?_; rintro e w' ⟨rfl, hbn⟩; exact ⟨rfl, hbn⟩)
       simp only [Act.put, List.setIfInBounds_toArray, List.set_cons_zero, List.set_cons_succ])
  first
    | (refine Way.no 16 (by rfl) (by kernel_rfl) (by rfl) ?_; simp only [Act.put, List.setIfInBounds_toArray, List.set_cons_zero, List.set_cons_succ])
    | (refine' Way.yes 16 (by rfl) (by kernel_rfl) (by rfl) (fun wS hS => ?_) ?_
       rotate_left
       · have hS' := (SD.out _).1 hS
         obtain ⟨hb0, hb1, hb2, hB⟩ := hS'
         have c0_0 := hb0.cell 0
         have c0_1 := hb0.cell 1
         have c0_2 := hb0.cell 2
         have c0_3 := hb0.cell 3
         have c1_0 := hb1.cell 0
         have c1_1 := hb1.cell 1
         have c1_2 := hb1.cell 2
         have c2_0 := hb2.cell 0
         have c2_1 := hb2.cell 1
         have c2_2 := hb2.cell 2
         go_simp
         first
           | exact ⟨rfl, Below.refl _ _⟩
           | (with_reducible refine (HRA.out _).mono ?_; rintro e w' ⟨rfl, hbn⟩; exact ⟨rfl, hbn⟩)
           | (with_reducible refine (HRM.out _).mono ?_; rintro e w' ⟨rfl, hbn⟩; exact ⟨rfl, hbn⟩)
       simp only [Act.put, List.setIfInBounds_toArray, List.set_cons_zero, List.set_cons_succ])
  first
    | (refine Way.no 17 (by rfl) (by kernel_rfl) (by rfl) ?_; simp only [Act.put, List.setIfInBounds_toArray, List.set_cons_zero, List.set_cons_succ])
    | (refine' Way.yes 17 (by rfl) (by kernel_rfl) (by rfl) (fun wS hS => ?_) ?_
       rotate_left
       · have hS' := (SD.out _).1 hS
         obtain ⟨hb0, hb1, hb2, hB⟩ := hS'
         have c0_0 := hb0.cell 0
         have c0_1 := hb0.cell 1
         have c0_2 := hb0.cell 2
         have c0_3 := hb0.cell 3
         have c1_0 := hb1.cell 0
         have c1_1 := hb1.cell 1
         have c1_2 := hb1.cell 2
         have c2_0 := hb2.cell 0
         have c2_1 := hb2.cell 1
         have c2_2 := hb2.cell 2
         go_simp
         first
           | exact ⟨rfl, Below.refl _ _⟩
           | (with_reducible refine (HRA.out _).mono ?_; rintro e w' ⟨rfl, hbn⟩; exact ⟨rfl, hbn⟩)
           | (with_reducible refine (HRM.out _).mono ?_; rintro e w' ⟨rfl, hbn⟩; exact ⟨rfl, hbn⟩)
       simp only [Act.put, List.setIfInBounds_toArray, List.set_cons_zero, List.set_cons_succ])
  first
    | (refine Way.no 18 (by rfl) (by kernel_rfl) (by rfl) ?_; simp only [Act.put, List.setIfInBounds_toArray, List.set_cons_zero, List.set_cons_succ])
    | (refine' Way.yes 18 (by rfl) (by kernel_rfl) (by rfl) (fun wS hS => ?_) ?_
       rotate_left
       · have hS' := (SD.out _).1 hS
         obtain ⟨hb0, hb1, hb2, hB⟩ := hS'
         have c0_0 := hb0.cell 0
         have c0_1 := hb0.cell 1
         have c0_2 := hb0.cell 2
         have c0_3 := hb0.cell 3
         have c1_0 := hb1.cell 0
         have c1_1 := hb1.cell 1
         have c1_2 := hb1.cell 2
         have c2_0 := hb2.cell 0
         have c2_1 := hb2.cell 1
         have c2_2 := hb2.cell 2
         go_simp
         first
           | exact ⟨rfl, Below.refl _ _⟩
           | (with_reducible refine (HRA.out _).mono ?_; rintro e w' ⟨rfl, hbn⟩; exact ⟨rfl, hbn⟩)
           | (with_reducible refine (HRM.out _).mono ?_; rintro e w' ⟨rfl, hbn⟩; exact ⟨rfl, hbn⟩)
       simp only [Act.put, List.setIfInBounds_toArray, List.set_cons_zero, List.set_cons_succ])
  refine Way.move 19 (by rfl) (by kernel_rfl) (by rfl) (fun WA hS => ?_)
  have hS' := (SD.out _).1 hS
  obtain ⟨hb0, hb1, hb2, hB⟩ := hS'
  have c0_0 := hb0.cell 0
  have c0_1 := hb0.cell 1
  have c0_2 := hb0.cell 2
  have c0_3 := hb0.cell 3
  have c1_0 := hb1.cell 0
  have c1_1 := hb1.cell 1
  have c1_2 := hb1.cell 2
  have c2_0 := hb2.cell 0
  have c2_1 := hb2.cell 1
  have c2_2 := hb2.cell 2
  have lt_WA_0 := hb0.lt
  have lt_WA_1 := hb1.lt
  have lt_WA_2 := hb2.lt
  have leB_WA := Nat.le_trans SDL hB.size
  go_simp
  obtain ⟨S_1, SD_1⟩ : ∃ S_1 : World → Prop, Go.RowKit.Hid (∀ x : World, S_1 x ↔ (Blk x w.heap.size 44 #[.string ⟨s.toArray⟩, .int .i64 A, .int .i64 Bh, .int .i64 Wy] ∧ Blk x w2.heap.size 23 #[.bool g, .string ⟨l.toArray⟩, .int .i64 ex] ∧ Blk x w5.heap.size 23 #[.bool g, .string ⟨l.toArray⟩, .int .i64 ex] ∧ (∃ u0 u1 u2, Blk x WA.heap.size 23 #[u0, u1, u2]) ∧ Below w.heap.size w x)) := ⟨_, Lib.hid (fun _ => Iff.rfl)⟩
  have hst : Stays S_1 := fun W W' h hb => by obtain ⟨h0, h1, h2, ⟨u3_0, u3_1, u3_2, h3⟩, hB⟩ := (SD_1.out _).1 h; exact (SD_1.out _).2 ⟨h0.st hb, h1.st hb, h2.st hb, ⟨u3_0, u3_1, u3_2, h3.st hb⟩, hB.trans (hb.mono (Nat.le_trans SDL hB.size))⟩
  have hle : ∀ x, S_1 x → S x := fun x h => by obtain ⟨h0, h1, h2, ⟨u3_0, u3_1, u3_2, h3⟩, hB⟩ := (SD_1.out _).1 h; exact (SD.out _).2 ⟨h0, h1, h2, hB⟩
  refine Moved.keep S_1 hst hle ((SD_1.out _).2 ⟨hb0.alloc _, hb1.alloc _, hb2.alloc _, ⟨_, _, _, Blk.new WA _ _⟩, hB.alloc (Nat.le_trans SDL hB.size) _⟩) ?_
  try simp only [Act.put, List.setIfInBounds_toArray, List.set_cons_zero, List.set_cons_succ]
  refine Way.move 20 (by rfl) (by kernel_rfl) (by rfl) (fun wS hS => ?_)
  have hS' := (SD_1.out _).1 hS
  obtain ⟨hb0, hb1, hb2, ⟨u3_0, u3_1, u3_2, hb3⟩, hB⟩ := hS'
  have c0_0 := hb0.cell 0
  have c0_1 := hb0.cell 1
  have c0_2 := hb0.cell 2
  have c0_3 := hb0.cell 3
  have c1_0 := hb1.cell 0
  have c1_1 := hb1.cell 1
  have c1_2 := hb1.cell 2
  have c2_0 := hb2.cell 0
  have c2_1 := hb2.cell 1
  have c2_2 := hb2.cell 2
  have c3_0 := hb3.cell 0
  have c3_1 := hb3.cell 1
  have c3_2 := hb3.cell 2
  have f3_0 := hb3.frozen 0
  have f3_1 := hb3.frozen 1
  have f3_2 := hb3.frozen 2
  go_simp
  obtain ⟨S_2, SD_2⟩ : ∃ S_2 : World → Prop, Go.RowKit.Hid (∀ x : World, S_2 x ↔ (Blk x w.heap.size 44 #[.string ⟨s.toArray⟩, .int .i64 A, .int .i64 Bh, .int .i64 Wy] ∧ Blk x w2.heap.size 23 #[.bool g, .string ⟨l.toArray⟩, .int .i64 ex] ∧ Blk x w5.heap.size 23 #[.bool g, .string ⟨l.toArray⟩, .int .i64 ex] ∧ Blk x WA.heap.size 23 #[.bool g, .string ⟨F.toArray⟩, .int .i64 y] ∧ Below w.heap.size w x)) := ⟨_, Lib.hid (fun _ => Iff.rfl)⟩
  have hst : Stays S_2 := fun W W' h hb => by obtain ⟨h0, h1, h2, h3, hB⟩ := (SD_2.out _).1 h; exact (SD_2.out _).2 ⟨h0.st hb, h1.st hb, h2.st hb, h3.st hb, hB.trans (hb.mono (Nat.le_trans SDL hB.size))⟩
  have hle : ∀ x, S_2 x → S_1 x := fun x h => by obtain ⟨h0, h1, h2, h3, hB⟩ := (SD_2.out _).1 h; exact (SD_1.out _).2 ⟨h0, h1, h2, ⟨_, _, _, h3⟩, hB⟩
  refine Moved.keep S_2 hst hle ((SD_2.out _).2 ⟨(((hb0.far (by first | (simp; done) | (simp; omega)) _).far (by first | (simp; done) | (simp; omega)) _).far (by first | (simp; done) | (simp; omega)) _), (((hb1.far (by first | (simp; done) | (simp; omega)) _).far (by first | (simp; done) | (simp; omega)) _).far (by first | (simp; done) | (simp; omega)) _), (((hb2.far (by first | (simp; done) | (simp; omega)) _).far (by first | (simp; done) | (simp; omega)) _).far (by first | (simp; done) | (simp; omega)) _), (((hb3.set1 0 _).set1 1 _).set1 2 _), (((hB.setCell (by first | (simp; done) | (simp; omega)) _).setCell (by first | (simp; done) | (simp; omega)) _).setCell (by first | (simp; done) | (simp; omega)) _)⟩) ?_
  try simp only [Act.put, List.setIfInBounds_toArray, List.set_cons_zero, List.set_cons_succ]

  refine Way.done (by kernel_rfl) (fun wE hS => ?_)
  have hS' := (SD_2.out _).1 hS
  obtain ⟨hb0, hb1, hb2, hb3, hB⟩ := hS'
  have c0_0 := hb0.cell 0
  have c0_1 := hb0.cell 1
  have c0_2 := hb0.cell 2
  have c0_3 := hb0.cell 3
  have c1_0 := hb1.cell 0
  have c1_1 := hb1.cell 1
  have c1_2 := hb1.cell 2
  have c2_0 := hb2.cell 0
  have c2_1 := hb2.cell 1
  have c2_2 := hb2.cell 2
  have c3_0 := hb3.cell 0
  have c3_1 := hb3.cell 1
  have c3_2 := hb3.cell 2
  clear hS
  have B0 := Lib.hid hb0
  have B1 := Lib.hid hb1
  have B2 := Lib.hid hb2
  have B3 := Lib.hid hb3
  have BB := Lib.hid hB
  clear hB hb0 hb1 hb2 hb3
  go_wp2_with fail
  have c0_0 := B0.out.cell 0
  have c0_1 := B0.out.cell 1
  have c0_2 := B0.out.cell 2
  have c0_3 := B0.out.cell 3
  have c1_0 := B1.out.cell 0
  have c1_1 := B1.out.cell 1
  have c1_2 := B1.out.cell 2
  have c2_0 := B2.out.cell 0
  have c2_1 := B2.out.cell 1
  have c2_2 := B2.out.cell 2
  have c3_0 := B3.out.cell 0
  have c3_1 := B3.out.cell 1
  have c3_2 := B3.out.cell 2
  refine (HVF'.out _).mono ?_
  rintro e w11 ⟨rfl, hb⟩
  clear c0_0 c0_1 c0_2 c0_3 c1_0 c1_1 c1_2 c2_0 c2_1 c2_2 c3_0 c3_1 c3_2
  have B0 := Lib.hid (B0.out.st hb)
  have B1 := Lib.hid (B1.out.st hb)
  have B2 := Lib.hid (B2.out.st hb)
  have B3 := Lib.hid (B3.out.st hb)
  have hbk := keepb BB.out hb
  have BB := Lib.hid hbk
  clear hb hbk
  have c0_0 := B0.out.cell 0
  have c0_1 := B0.out.cell 1
  have c0_2 := B0.out.cell 2
  have c0_3 := B0.out.cell 3
  have c1_0 := B1.out.cell 0
  have c1_1 := B1.out.cell 1
  have c1_2 := B1.out.cell 2
  have c2_0 := B2.out.cell 0
  have c2_1 := B2.out.cell 1
  have c2_2 := B2.out.cell 2
  have c3_0 := B3.out.cell 0
  have c3_1 := B3.out.cell 1
  have c3_2 := B3.out.cell 2
  go_wp2_with fail
  refine (HPF'.out _ (ht.out.below BB.out)).mono ?_
  rintro e w12 ⟨rfl, hb⟩
  clear c0_0 c0_1 c0_2 c0_3 c1_0 c1_1 c1_2 c2_0 c2_1 c2_2 c3_0 c3_1 c3_2
  have B0 := Lib.hid (B0.out.st hb)
  have B1 := Lib.hid (B1.out.st hb)
  have B2 := Lib.hid (B2.out.st hb)
  have B3 := Lib.hid (B3.out.st hb)
  have hbk := keepb BB.out hb
  have BB := Lib.hid hbk
  clear hb hbk
  have c0_0 := B0.out.cell 0
  have c0_1 := B0.out.cell 1
  have c0_2 := B0.out.cell 2
  have c0_3 := B0.out.cell 3
  have c1_0 := B1.out.cell 0
  have c1_1 := B1.out.cell 1
  have c1_2 := B1.out.cell 2
  have c2_0 := B2.out.cell 0
  have c2_1 := B2.out.cell 1
  have c2_2 := B2.out.cell 2
  have c3_0 := B3.out.cell 0
  have c3_1 := B3.out.cell 1
  have c3_2 := B3.out.cell 2
  go_wp2_with fail
  refine (HCM'.out _).mono ?_
  rintro e w13 ⟨rfl, hb⟩
  clear c0_0 c0_1 c0_2 c0_3 c1_0 c1_1 c1_2 c2_0 c2_1 c2_2 c3_0 c3_1 c3_2
  have B0 := Lib.hid (B0.out.st hb)
  have B1 := Lib.hid (B1.out.st hb)
  have B2 := Lib.hid (B2.out.st hb)
  have B3 := Lib.hid (B3.out.st hb)
  have hbk := keepb BB.out hb
  have BB := Lib.hid hbk
  clear hb hbk
  have c0_0 := B0.out.cell 0
  have c0_1 := B0.out.cell 1
  have c0_2 := B0.out.cell 2
  have c0_3 := B0.out.cell 3
  have c1_0 := B1.out.cell 0
  have c1_1 := B1.out.cell 1
  have c1_2 := B1.out.cell 2
  have c2_0 := B2.out.cell 0
  have c2_1 := B2.out.cell 1
  have c2_2 := B2.out.cell 2
  have c3_0 := B3.out.cell 0
  have c3_1 := B3.out.cell 1
  have c3_2 := B3.out.cell 2
  go_wp2_with fail
  refine (HSM.out _).mono ?_
  rintro e w14 ⟨rfl, hb⟩
  clear c0_0 c0_1 c0_2 c0_3 c1_0 c1_1 c1_2 c2_0 c2_1 c2_2 c3_0 c3_1 c3_2
  have B0 := Lib.hid (B0.out.st hb)
  have B1 := Lib.hid (B1.out.st hb)
  have B2 := Lib.hid (B2.out.st hb)
  have B3 := Lib.hid (B3.out.st hb)
  have hbk := keepb BB.out hb
  have BB := Lib.hid hbk
  clear hb hbk
  have c0_0 := B0.out.cell 0
  have c0_1 := B0.out.cell 1
  have c0_2 := B0.out.cell 2
  have c0_3 := B0.out.cell 3
  have c1_0 := B1.out.cell 0
  have c1_1 := B1.out.cell 1
  have c1_2 := B1.out.cell 2
  have c2_0 := B2.out.cell 0
  have c2_1 := B2.out.cell 1
  have c2_2 := B2.out.cell 2
  have c3_0 := B3.out.cell 0
  have c3_1 := B3.out.cell 1
  have c3_2 := B3.out.cell 2
  go_wp2_with fail
  go_ret
  exact ⟨rfl, BB.out⟩

set_option maxRecDepth 100000 in
theorem walk (a0 : ByteArray) (A Bh Wy : Int) (w : World) (w0 : a0.size ≤ maxLen) (s0 : a0.size ≤ 140737488351232) (w1 : (Lit.int .i64 A).wf = true) (w2 : (Lit.int .i64 Bh).wf = true) (w3 : (Lit.int .i64 Wy).wf = true) (ht : Tab w) :
    Calls Tryz.prog 4 #[.agg #[.string a0, .int .i64 A, .int .i64 Bh, .int .i64 Wy]] w fun e w' => e = .returned (.bool true) ∧ Below w.heap.size w w' := by
  obtain ⟨s, rfl⟩ := ba_list a0
  rw [sv_len] at s0
  have HLI := Lib.hid (fun W => literal_any s W (by omega))
  have qt := litOf_ok s
  have lt := litOf_len s0 (by decide)
  generalize litOf s = t at *
  have HPA := fun W => parts_ok t W (by omega) qt
  have hbl := bareP_len t
  have hbb := bareP_bare t
  have HRO := fun W way hw => round_ok t way W (by omega) hw qt
  have HCP := fun P n W hP q hn => comp_at P t W hP (by omega) q qt n hn
  obtain ⟨d, hd⟩ : ∃ d, bareP t = d := ⟨_, rfl⟩
  obtain ⟨g, l, ex⟩ := d
  rw [hd] at HPA hbl hbb HRO
  cases hn : nearP ex with
  | false =>
    have hp : partsV (g, l, ex) = .tuple #[decV (false, [], 0), enoV 3] := by unfold partsV; simp only; rw [hn]; rfl
    rw [hp] at HPA
    exact walk_far s t A Bh Wy w HLI (Lib.hid HPA)
  | true =>
    have hp : partsV (g, l, ex) = .tuple #[decV (g, l, ex), .nilIface] := by unfold partsV; simp only; rw [hn]; rfl
    rw [hp] at HPA
    obtain ⟨hx1, hx2⟩ := nearP_iff hn
    simp only at hbl
    have hm : mayP (g, l, ex) = true := by
      unfold mayP
      rw [Bool.and_eq_true]
      exact ⟨by simpa using hbb.1, hn⟩
    obtain ⟨U1, r, u1, u2, u3, u4⟩ := num_of 5 (by decide) (by decide) Wy
    obtain ⟨U2, m, v1, v2, v3, v4⟩ := num_of 40 (by decide) (by decide) Bh
    obtain ⟨U3, a, z1, z2, z3, z4⟩ := num_of 40 (by decide) (by decide) A
    have hw : 1 ≤ 1 + (r : Int) ∧ 1 + (r : Int) ≤ 5 := by omega
    have hpo := printP_ok hm
    rw [stripD_self hbb] at hpo
    have hpl := printP_len hm
    simp only at hpl
    obtain ⟨n, er, hre⟩ : ∃ (n : Nat) (er : Value), roundV (roundP (g, l, ex) (1 + (r : Int))) = .tuple #[.int .u64 (n : Int), er] ∧ (er = .nilIface ∨ er = enoV 41) := by
      cases roundP (g, l, ex) (1 + (r : Int)) with
      | none => exact ⟨0, _, rfl, .inr rfl⟩
      | some y => exact ⟨y, _, rfl, .inl rfl⟩
    obtain ⟨hre, her⟩ := hre
    have hmf : -1099511627776 ≤ ex - m → mayP (g, List.replicate a 48 ++ l ++ List.replicate m 48, ex - m) = true := fun h => by
      unfold mayP
      rw [Bool.and_eq_true]
      refine ⟨?_, decide_eq_true ⟨h, by show ex - (m : Int) ≤ _; omega⟩⟩
      have hd := mayP_digits hm
      rw [List.all_eq_true]
      intro c hc
      rcases List.mem_append.1 hc with h1 | h1
      · rcases List.mem_append.1 h1 with h2 | h2
        · rw [(List.mem_replicate.1 h2).2]; decide
        · exact hd c h2
      · rw [(List.mem_replicate.1 h1).2]; decide
    have hfl : (List.replicate a (48 : UInt8) ++ l ++ List.replicate m 48).length ≤ 140737488352000 := by
      simp
      omega
    have hll : l.length ≤ 140737488351232 := by omega
    refine walk_near s t l (printP (g, l, ex)) (List.replicate a 48 ++ l ++ List.replicate m 48) (printP (g, List.replicate a 48 ++ l ++ List.replicate m 48, ex - m)) g ex (ex - m) A Bh Wy (1 + (r : Int)) n a m U1 U2 U3 r er w
      HLI (Lib.hid HPA) (Lib.hid fun W h => print_ok (g, l, ex) W (by simp only; omega) hm h) (Lib.hid fun W => ?_) (Lib.hid fun W => prefix_any l W hbb.2.2.1) (Lib.hid fun W => suffix_any l W (by omega) hbb.2.2.2)
      (Lib.hid fun W => by rw [← hre]; exact HRO W _ hw) (Lib.hid fun W => ?_) (Lib.hid fun W => same_any er her W) (Lib.hid fun W => repeat_any a (by omega) W) (Lib.hid fun W => repeat_any m (by omega) W)
      (Lib.hid rfl) (Lib.hid rfl) (Lib.hid fun h W => ?_) (Lib.hid fun h W hT => ?_) (Lib.hid fun h W => ?_) (Lib.hid ⟨u1, u2, u3, rfl, by omega⟩) (Lib.hid ⟨v1, v2, v3, by omega⟩) (Lib.hid ⟨z1, z2, z3, by omega⟩) (Lib.hid ⟨hx1, hx2⟩) (Lib.hid (by omega)) (Lib.hid ht)
    · have h := parts_ok (printP (g, l, ex)) W (by omega) hpo.1
      rw [hpo.2, hp] at h
      exact h
    · have h := value_ok (g, l, ex) (1 + (r : Int)) W (by simp only; omega) hm hw
      rw [stripD_self hbb, hre] at h
      exact h
    · have h1 := value_ok (g, List.replicate a 48 ++ l ++ List.replicate m 48, ex - m) (1 + (r : Int)) W (by simp only; simp; omega) (hmf h) hw
      rw [stripD_far hbb, hre] at h1
      exact h1
    · exact print_ok (g, List.replicate a 48 ++ l ++ List.replicate m 48, ex - m) W (by simp only; simp; omega) (hmf h) hT
    · have hpf := printP_ok (hmf h)
      rw [stripD_far hbb] at hpf
      have hpfl := printP_len (hmf h)
      simp only at hpfl
      have h1 := HCP (printP (g, List.replicate a 48 ++ l ++ List.replicate m 48, ex - m)) true W (Nat.le_trans hpfl (by rw [List.length_append, List.length_append, List.length_replicate, List.length_replicate]; omega)) hpf.1 (by rw [hpf.2, hd]; simp only; rw [hn]; rfl)
      simp only [if_true] at h1
      rw [hpf.2, hd, cmpD_self] at h1
      exact h1
end Go.Proofs.YtjggmdlecdbeeaaGreatDoor.decMoves

namespace Go.Proofs.YtjggmdlecdbeeaaGreatDoor.decMoves
open Go.ChangeShapes Go.WideShapes Go.ChangeAt Go.RowKit
open Go.ChangeMaps (open_string shut_string)
set_option linter.unusedVariables false
set_option linter.unusedSimpArgs false

theorem own : ownKnob Tryz.prog.godebug = none := by kernel_rfl
theorem laidOut : laidOutB Tryz.prog = true := by kernel_rfl


set_option maxRecDepth 100000 in
theorem lifted (os : Os) (started : os.Started) (H : Type) (enc : TypeId × Value → H) :
    ReturnsInHanded {} Tryz.checked os 4 .any (fun w args => (Rows.decMovesSpec.pre enc Tryz.prog Tryz.f4 Rows.decMovesRow.domain false w args ∧ laidMetH Tryz.prog Rows.decMovesRow.laid w) ∧ sizedMet enc Tryz.prog Tryz.f4 (OpenSpec.ofChange Rows.decMovesSpec) false w args)
      (Rows.decMovesSpec.post enc Tryz.prog Tryz.f4 false true false false) := by
  refine returnsInHanded_of_change_and (C := Tryz.checked) (X := fun w _ => laidMetH Tryz.prog Rows.decMovesRow.laid w) (fun _ _ _ hh h => h.of_heap hh) own started (by kernel_rfl) Tryz.func4
    (ChangeSpec.witness_shaped (enc := enc) (C := Tryz.checked) (os := os) (X := fun w _ => laidMetH Tryz.prog Rows.decMovesRow.laid w) false (World.laidAll Tryz.prog os Rows.decMovesRow.laid) #[.agg #[.string ByteArray.empty, .int .i64 0, .int .i64 0, .int .i64 0]] 8 (World.laidAll_os _ _ _)
      (World.shaped_of_ZipB (by kernel_rfl) (by kernel_rfl)) (by kernel_rfl) (by kernel_rfl) (by kernel_rfl)
      (by rw [MakeChecks.laidMetH_plain _ _ _ (by kernel_rfl)]; exact laidMet_laidAll _ (by kernel_rfl) (by kernel_rfl))) ?_
  intro W base args ds gs before hval0 hW hcnd hsz0 hX1 _
  have hsz : (DataW.weightsEach Tryz.prog (Tryz.f4.params.toList ++ Rows.decMovesSpec.plain.varTypes Tryz.prog) (ds ++ gs)).all (· ≤ reachBytes) = true := hsz0
  clear hsz0
  have hval : ∀ (j : Nat) t v, Tryz.f4.params[j]? = some t → args[j]? = some v → Value.okWide Tryz.prog W .any base t v := hval0
  have hW' := hW
  obtain ⟨p, q, hA0, hV, rfl, hfz, hnd⟩ := hW
  have hA : DataW.TrodAll enc Tryz.prog W 0 (fun _ => true) true Tryz.f4.params.toList args.toList ds p := hA0
  rw [Tryz.params4] at hA hval hsz
  obtain ⟨v0, vs0, d0, ds0, p0, q0, hargs, rfl, rfl, h0, r0⟩ := trodAll_cons hA
  obtain ⟨rfl, rfl, rfl⟩ := trodAll_nil r0
  obtain rfl : args = #[v0] := by cases args; simp_all
  obtain ⟨rfl, rfl⟩ := trodVars_none hV
  have k0 := h0
  have lt0 : ∀ x ∈ p0, x.block < W.heap.size := by obtain ⟨m, hm⟩ := k0; exact DataW.trod_lt m _ _ _ hm
  obtain ⟨c0_0, c0_1, c0_2, c0_3, y0_0, y0_1, y0_2, y0_3, m0, rfl, hd0, hp0, hy0_0, hy0_1, hy0_2, hy0_3⟩ := Joins.open_agg4 Tryz.underlying44 (by kernel_rfl) (by kernel_rfl) (hval 0 44 v0 rfl rfl) h0
  obtain ⟨a0_0, e0_0, l0_0, w0_0⟩ := DataW.trod_string Tryz.underlying9 hy0_0
  obtain ⟨a0_1, e0_1, _, w0_1⟩ := DataW.trod_int Tryz.underlying3 hy0_1
  obtain ⟨a0_2, e0_2, _, w0_2⟩ := DataW.trod_int Tryz.underlying3 hy0_2
  obtain ⟨a0_3, e0_3, _, w0_3⟩ := DataW.trod_int Tryz.underlying3 hy0_3
  simp at e0_0 e0_1 e0_2 e0_3
  subst e0_0 e0_1 e0_2 e0_3
  have s0_0 : a0_0.size ≤ 140737488351232 := by
    have h := List.all_eq_true.1 hsz a0_0.data.toList.length (DataW.weights_mem_each (j := 0) (t := 44) rfl (by rw [hd0]; rfl) _ (by rw [l0_0]; simp [DataW.weights, DataW.weightsEach, Tryz.underlying44]))
    have h2 := of_decide_eq_true h; simpa [reachBytes] using h2
  clear hA0 hval0
  refine (walk a0_0 a0_1 a0_2 a0_3 W w0_0 s0_0 w0_1 w0_2 w0_3 (tab_of hX1 (by kernel_rfl) (List.Mem.tail _ (List.Mem.tail _ (List.Mem.head _))))).mono fun e W' ⟨he, bel⟩ => ?_
  subst he
  exact ⟨_, rfl, _, _, _, [], _, [], hW', trodAll_mk1 (shut_bool Tryz.underlying4 _), (trodAll_cons_mk (Below.trod laidOut (by kernel_rfl) (of_decide_eq_true (by kernel_rfl)) k0 bel lt0) trodAll_mk0), rfl, bel.frame _, fun h => by cases h⟩

theorem over : Rows.decMovesRow.holds Tryz.pinned (OpenSpec.ofChange Rows.decMovesSpec) :=
  OpenClaim.holds_of_wide 4 Tryz.f4 rfl rfl rfl rfl rfl rfl rfl ⟨rfl, rfl, rfl, rfl, rfl⟩ rfl rfl rfl rfl rfl (by kernel_rfl) Tryz.func4 (by kernel_rfl)
    (of_decide_eq_true (by kernel_rfl)) (by unfold Func.isWrapper; first | (rw [if_pos (by decide +kernel)]; kernel_rfl) | (rw [if_neg (by decide +kernel)]; exact ⟨rfl, rfl⟩))
    (fun os started H enc _ => lifted os started H enc)

theorem proved : Rows.DecMovesCardSaid :=
  Claim7.holds_tied_plain_at .later [] [.data, .data, .data, .data, .pinned] true Rows.decMovesCard.stood.harness true over (fun _ h => by cases h) (by kernel_rfl) (fun _ h => by cases h) decMoves_row_tie rfl ⟨rfl, rfl⟩ (by kernel_rfl) rfl
    (fun f fn hf hfn => by
      obtain rfl : f = 4 := Option.some.inj ((show Tryz.prog.funcNamed Rows.decMovesRow.func = some 4 by kernel_rfl).symm.trans hf) |>.symm
      obtain rfl : fn = Tryz.f4 := (Option.some.inj (Tryz.func4.symm.trans hfn)).symm
      exact ⟨by kernel_rfl, fun j t ht => by
        rw [Tryz.params4] at ht
        have hm : t ∈ [44] := by simpa using Array.mem_of_getElem? ht
        have hall : ([44].all fun u => !Tryz.prog.wantsStandIn u) = true := by kernel_rfl
        exact (show Tryz.prog.wantsStandIn t = false by simpa using List.all_eq_true.1 hall t hm)⟩)
    (by kernel_rfl)
#print axioms proved
end Go.Proofs.YtjggmdlecdbeeaaGreatDoor.decMoves
