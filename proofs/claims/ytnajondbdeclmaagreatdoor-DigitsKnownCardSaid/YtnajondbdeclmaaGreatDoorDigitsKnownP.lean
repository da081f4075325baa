/- What DigitsKnown names: the floats' rows, texts, forms. -/
import Derived.Test.YtnajondbdeclmaaGreatDoorRoundP
import Derived.Test.YtnajondbdeclmaaGreatDoorDigitsBackW
namespace Go.Proofs.YtnajondbdeclmaaGreatDoor.digitsKnown
open Go.RowKit
set_option linter.unusedSimpArgs false
set_option linter.unusedVariables false

theorem pk_one (j : Nat) (hj : j = 1075) : pickG (insD 4607182418800017408) (sz 4607182418800017408) 1076 1 = some (1 * 10 ^ j) := by subst hj; decide +kernel
theorem sh_one : shortR 4607182418800017408 = ([49], 1) := by
  obtain ⟨j, hj⟩ : ∃ j, j = 1075 := ⟨_, rfl⟩
  refine row_at (k := 1) (L := 1076) (v := 1) (j := j) (by decide) (by decide +kernel) (by decide +kernel) (by decide) (by decide) (pk_one j hj) (.inl rfl) rfl ?_ (by decide) (by decide) (by decide) (by subst hj; decide)
  exact dtext_canon (by decide) (by decide) (.inl (by decide))
theorem pk_tenth (j : Nat) (hj : j = 1074) : pickG (insD 4591870180066957722) (sz 4591870180066957722) 1075 1 = some (1 * 10 ^ j) := by subst hj; decide +kernel
theorem sh_tenth : shortR 4591870180066957722 = ([49], 0) := by
  obtain ⟨j, hj⟩ : ∃ j, j = 1074 := ⟨_, rfl⟩
  refine row_at (k := 1) (L := 1075) (v := 1) (j := j) (by decide) (by decide +kernel) (by decide +kernel) (by decide) (by decide) (pk_tenth j hj) (.inl rfl) rfl ?_ (by decide) (by decide) (by decide) (by subst hj; decide)
  exact dtext_canon (by decide) (by decide) (.inl (by decide))
theorem pk_hund (j : Nat) (hj : j = 1077) : pickG (insD 4636737291354636288) (sz 4636737291354636288) 1078 1 = some (1 * 10 ^ j) := by subst hj; decide +kernel
theorem sh_hund : shortR 4636737291354636288 = ([49], 3) := by
  obtain ⟨j, hj⟩ : ∃ j, j = 1077 := ⟨_, rfl⟩
  refine row_at (k := 1) (L := 1078) (v := 1) (j := j) (by decide) (by decide +kernel) (by decide +kernel) (by decide) (by decide) (pk_hund j hj) (.inl rfl) rfl ?_ (by decide) (by decide) (by decide) (by subst hj; decide)
  exact dtext_canon (by decide) (by decide) (.inl (by decide))
theorem pk_mixed (j : Nat) (hj : j = 1072) : pickG (insD 4638387860618067575) (sz 4638387860618067575) 1078 6 = some (123456 * 10 ^ j) := by subst hj; decide +kernel
theorem sh_mixed : shortR 4638387860618067575 = ([49, 50, 51, 52, 53, 54], 3) := by
  obtain ⟨j, hj⟩ : ∃ j, j = 1072 := ⟨_, rfl⟩
  refine row_at (k := 6) (L := 1078) (v := 123456) (j := j) (by decide) (by decide +kernel) (by decide +kernel) (by decide) (by decide) (pk_mixed j hj) (.inr (by decide +kernel)) rfl ?_ (by decide) (by decide) (by decide) (by subst hj; decide)
  exact dtext_canon (by decide) (by decide) (.inl (by decide))
theorem pk_least (j : Nat) (hj : j = 751) : pickG (insD 1) (sz 1) 752 1 = some (5 * 10 ^ j) := by subst hj; decide +kernel
theorem sh_least : shortR 1 = ([53], -323) := by
  obtain ⟨j, hj⟩ : ∃ j, j = 751 := ⟨_, rfl⟩
  refine row_at (k := 1) (L := 752) (v := 5) (j := j) (by decide) (by decide +kernel) (by decide +kernel) (by decide) (by decide) (pk_least j hj) (.inl rfl) rfl ?_ (by decide) (by decide) (by decide) (by subst hj; decide)
  exact dtext_canon (by decide) (by decide) (.inl (by decide))
theorem pk_p53 (j : Nat) (hj : j = 1075) : pickG (insD 4845873199050653696) (sz 4845873199050653696) 1091 16 = some (9007199254740992 * 10 ^ j) := by subst hj; decide +kernel
theorem sh_p53 : shortR 4845873199050653696 = ([57, 48, 48, 55, 49, 57, 57, 50, 53, 52, 55, 52, 48, 57, 57, 50], 16) := by
  obtain ⟨j, hj⟩ : ∃ j, j = 1075 := ⟨_, rfl⟩
  refine row_at (k := 16) (L := 1091) (v := 9007199254740992) (j := j) (by decide) (by decide +kernel) (by decide +kernel) (by decide) (by decide) (pk_p53 j hj) (.inr (by decide +kernel)) rfl ?_ (by decide) (by decide) (by decide) (by subst hj; decide)
  exact dtext_canon (by decide) (by decide) (.inl (by decide))
theorem pk_p50 (j : Nat) (hj : j = 1074) : pickG (insD 4832362400168542209) (sz 4832362400168542209) 1091 17 = some (11258999068426242 * 10 ^ j) := by subst hj; decide +kernel
theorem sh_p50 : shortR 4832362400168542209 = ([49, 49, 50, 53, 56, 57, 57, 57, 48, 54, 56, 52, 50, 54, 50, 52, 50], 16) := by
  obtain ⟨j, hj⟩ : ∃ j, j = 1074 := ⟨_, rfl⟩
  refine row_at (k := 17) (L := 1091) (v := 11258999068426242) (j := j) (by decide) (by decide +kernel) (by decide +kernel) (by decide) (by decide) (pk_p50 j hj) (.inr (by decide +kernel)) rfl ?_ (by decide) (by decide) (by decide) (by subst hj; decide)
  exact dtext_canon (by decide) (by decide) (.inl (by decide))
theorem text_at {n b : Nat} {g : Bool} {d l : List UInt8} {x : Int} (hb : n % 9223372036854775808 = b) (hw : isWhole b = false) (hs : shortR b = (d, x)) (hg : decide (9223372036854775808 ≤ n) = g) (hl : textR g d x = l) : textS n = l := by
  unfold textS
  rw [hb, hw, hs, hg, if_neg (by decide)]
  exact hl
theorem pk_e21 (j : Nat) (hj : j = 1096) : pickG (insD 4921056587992461136) (sz 4921056587992461136) 1097 1 = some (1 * 10 ^ j) := by subst hj; decide +kernel
theorem sh_e21 : shortR 4921056587992461136 = ([49], 22) := by
  obtain ⟨j, hj⟩ : ∃ j, j = 1096 := ⟨_, rfl⟩
  refine row_at (k := 1) (L := 1097) (v := 1) (j := j) (by decide) (by decide +kernel) (by decide +kernel) (by decide) (by decide) (pk_e21 j hj) (.inl rfl) rfl ?_ (by decide) (by decide) (by decide) (by subst hj; decide)
  exact dtext_canon (by decide) (by decide) (.inl (by decide))
theorem tx_e21 : textS 4921056587992461136 = [49, 101, 43, 50, 49] := text_at (b := 4921056587992461136) (g := false) (by decide) (by decide +kernel) sh_e21 (by decide) (by decide +kernel)
theorem pk_e20 (j : Nat) (hj : j = 1095) : pickG (insD 4906019910204099648) (sz 4906019910204099648) 1096 1 = some (1 * 10 ^ j) := by subst hj; decide +kernel
theorem sh_e20 : shortR 4906019910204099648 = ([49], 21) := by
  obtain ⟨j, hj⟩ : ∃ j, j = 1095 := ⟨_, rfl⟩
  refine row_at (k := 1) (L := 1096) (v := 1) (j := j) (by decide) (by decide +kernel) (by decide +kernel) (by decide) (by decide) (pk_e20 j hj) (.inl rfl) rfl ?_ (by decide) (by decide) (by decide) (by subst hj; decide)
  exact dtext_canon (by decide) (by decide) (.inl (by decide))
theorem tx_e20 : textS 4906019910204099648 = [49, 48, 48, 48, 48, 48, 48, 48, 48, 48, 48, 48, 48, 48, 48, 48, 48, 48, 48, 48, 48] := text_at (b := 4906019910204099648) (g := false) (by decide) (by decide +kernel) sh_e20 (by decide) (by decide +kernel)
theorem pk_em6 (j : Nat) (hj : j = 1069) : pickG (insD 4517329193108106637) (sz 4517329193108106637) 1069 1 = some (1 * 10 ^ j) := by subst hj; decide +kernel
theorem sh_em6 : shortR 4517329193108106637 = ([49], -5) := by
  obtain ⟨j, hj⟩ : ∃ j, j = 1069 := ⟨_, rfl⟩
  refine row_at (k := 1) (L := 1069) (v := 1) (j := j) (by decide) (by decide +kernel) (by decide +kernel) (by decide) (by decide) (pk_em6 j hj) (.inl rfl) rfl ?_ (by decide) (by decide) (by decide) (by subst hj; decide)
  exact dtext_canon (by decide) (by decide) (.inl (by decide))
theorem tx_em6 : textS 4517329193108106637 = [48, 46, 48, 48, 48, 48, 48, 49] := text_at (b := 4517329193108106637) (g := false) (by decide) (by decide +kernel) sh_em6 (by decide) (by decide +kernel)
theorem pk_em7 (j : Nat) (hj : j = 1068) : pickG (insD 4502148214488346440) (sz 4502148214488346440) 1068 1 = some (1 * 10 ^ j) := by subst hj; decide +kernel
theorem sh_em7 : shortR 4502148214488346440 = ([49], -6) := by
  obtain ⟨j, hj⟩ : ∃ j, j = 1068 := ⟨_, rfl⟩
  refine row_at (k := 1) (L := 1068) (v := 1) (j := j) (by decide) (by decide +kernel) (by decide +kernel) (by decide) (by decide) (pk_em7 j hj) (.inl rfl) rfl ?_ (by decide) (by decide) (by decide) (by subst hj; decide)
  exact dtext_canon (by decide) (by decide) (.inl (by decide))
theorem tx_em7 : textS 4502148214488346440 = [49, 101, 45, 55] := text_at (b := 4502148214488346440) (g := false) (by decide) (by decide +kernel) sh_em7 (by decide) (by decide +kernel)
theorem pk_tiny (j : Nat) (hj : j = 1066) : pickG (insD 4518434226865098134) (sz 4518434226865098134) 1070 4 = some (1234 * 10 ^ j) := by subst hj; decide +kernel
theorem sh_tiny : shortR 4518434226865098134 = ([49, 50, 51, 52], -5) := by
  obtain ⟨j, hj⟩ : ∃ j, j = 1066 := ⟨_, rfl⟩
  refine row_at (k := 4) (L := 1070) (v := 1234) (j := j) (by decide) (by decide +kernel) (by decide +kernel) (by decide) (by decide) (pk_tiny j hj) (.inr (by decide +kernel)) rfl ?_ (by decide) (by decide) (by decide) (by subst hj; decide)
  exact dtext_canon (by decide) (by decide) (.inl (by decide))
theorem tx_tiny : textS 4518434226865098134 = [48, 46, 48, 48, 48, 48, 48, 49, 50, 51, 52] := text_at (b := 4518434226865098134) (g := false) (by decide) (by decide +kernel) sh_tiny (by decide) (by decide +kernel)
theorem pk_e300 (j : Nat) (hj : j = 1374) : pickG (insD 9097811302482466869) (sz 9097811302482466869) 1376 2 = some (15 * 10 ^ j) := by subst hj; decide +kernel
theorem sh_e300 : shortR 9097811302482466869 = ([49, 53], 301) := by
  obtain ⟨j, hj⟩ : ∃ j, j = 1374 := ⟨_, rfl⟩
  refine row_at (k := 2) (L := 1376) (v := 15) (j := j) (by decide) (by decide +kernel) (by decide +kernel) (by decide) (by decide) (pk_e300 j hj) (.inr (by decide +kernel)) rfl ?_ (by decide) (by decide) (by decide) (by subst hj; decide)
  exact dtext_canon (by decide) (by decide) (.inl (by decide))
theorem tx_e300 : textS 9097811302482466869 = [49, 46, 53, 101, 43, 51, 48, 48] := text_at (b := 9097811302482466869) (g := false) (by decide) (by decide +kernel) sh_e300 (by decide) (by decide +kernel)
theorem pk_thirds (j : Nat) (hj : j = 1068) : pickG (insD 4734372014072354133) (sz 4734372014072354133) 1084 16 = some (3333333333333333 * 10 ^ j) := by subst hj; decide +kernel
theorem sh_thirds : shortR 4734372014072354133 = ([51, 51, 51, 51, 51, 51, 51, 51, 51, 51, 51, 51, 51, 51, 51, 51], 9) := by
  obtain ⟨j, hj⟩ : ∃ j, j = 1068 := ⟨_, rfl⟩
  refine row_at (k := 16) (L := 1084) (v := 3333333333333333) (j := j) (by decide) (by decide +kernel) (by decide +kernel) (by decide) (by decide) (pk_thirds j hj) (.inr (by decide +kernel)) rfl ?_ (by decide) (by decide) (by decide) (by subst hj; decide)
  exact dtext_canon (by decide) (by decide) (.inl (by decide))
theorem tx_thirds : textS 4734372014072354133 = [51, 51, 51, 51, 51, 51, 51, 51, 51, 46, 51, 51, 51, 51, 51, 51, 51] := text_at (b := 4734372014072354133) (g := false) (by decide) (by decide +kernel) sh_thirds (by decide) (by decide +kernel)
theorem pk_max (j : Nat) (hj : j = 1367) : pickG (insD 9218868437227405311) (sz 9218868437227405311) 1384 17 = some (17976931348623157 * 10 ^ j) := by subst hj; decide +kernel
theorem sh_max : shortR 9218868437227405311 = ([49, 55, 57, 55, 54, 57, 51, 49, 51, 52, 56, 54, 50, 51, 49, 53, 55], 309) := by
  obtain ⟨j, hj⟩ : ∃ j, j = 1367 := ⟨_, rfl⟩
  refine row_at (k := 17) (L := 1384) (v := 17976931348623157) (j := j) (by decide) (by decide +kernel) (by decide +kernel) (by decide) (by decide) (pk_max j hj) (.inr (by decide +kernel)) rfl ?_ (by decide) (by decide) (by decide) (by subst hj; decide)
  exact dtext_canon (by decide) (by decide) (.inl (by decide))
theorem tx_max : textS 9218868437227405311 = [49, 46, 55, 57, 55, 54, 57, 51, 49, 51, 52, 56, 54, 50, 51, 49, 53, 55, 101, 43, 51, 48, 56] := text_at (b := 9218868437227405311) (g := false) (by decide) (by decide +kernel) sh_max (by decide) (by decide +kernel)
theorem pk_neg25 (j : Nat) (hj : j = 1074) : pickG (insD 4612811918334230528) (sz 4612811918334230528) 1076 2 = some (25 * 10 ^ j) := by subst hj; decide +kernel
theorem sh_neg25 : shortR 4612811918334230528 = ([50, 53], 1) := by
  obtain ⟨j, hj⟩ : ∃ j, j = 1074 := ⟨_, rfl⟩
  refine row_at (k := 2) (L := 1076) (v := 25) (j := j) (by decide) (by decide +kernel) (by decide +kernel) (by decide) (by decide) (pk_neg25 j hj) (.inr (by decide +kernel)) rfl ?_ (by decide) (by decide) (by decide) (by subst hj; decide)
  exact dtext_canon (by decide) (by decide) (.inl (by decide))
theorem tx_neg25 : textS 13836183955189006336 = [45, 50, 46, 53] := text_at (b := 4612811918334230528) (g := true) (by decide) (by decide +kernel) sh_neg25 (by decide) (by decide +kernel)
theorem round_at {b k L V : Nat} {lV l : List UInt8} {n : Int} (h0 : 0 < b) (hS1 : 10 ^ (L - 1) ≤ sz b) (hS2 : sz b < 10 ^ L) (h1 : 1 ≤ L) (hkL : k < L) (hV : sz b / 10 ^ (L - k) + (if upN (sz b) (10 ^ (L - k)) then 1 else 0) = V)
    (hl : dtext (dval lV) = lV) (hv : V = dval lV) (hv0 : 0 < V) (hd : noughtsR lV = l) (hx : ((lV.length + (L - k) : Nat) : Int) - 1075 = n) : rowN (roundN (sz b) k) = (l, n) := by
  have hL : lenD (sz b) = L := by
    have h := lenD_of hS1 (by rw [show L - 1 + 1 = L by omega]; exact hS2)
    omega
  have e : roundN (sz b) k = V * 10 ^ (L - k) := by
    unfold roundN
    rw [hL, if_pos hkL, hV]
  rw [e, rowN_mul hv0]
  unfold lenD
  rw [hv, hl, hd, hx]
theorem rd_half2 : rowN (roundN (sz 4612811918334230528) 1) = ([50], 1) :=
  round_at (L := 1076) (V := 2) (lV := [50]) (by decide) (by decide +kernel) (by decide +kernel) (by decide) (by decide) (by decide +kernel) (dtext_canon (by decide) (by decide) (.inl (by decide))) (by decide +kernel) (by decide) (by decide) (by decide)
theorem rd_half4 : rowN (roundN (sz 4615063718147915776) 1) = ([52], 1) :=
  round_at (L := 1076) (V := 4) (lV := [52]) (by decide) (by decide +kernel) (by decide +kernel) (by decide) (by decide) (by decide +kernel) (dtext_canon (by decide) (by decide) (.inl (by decide))) (by decide +kernel) (by decide) (by decide) (by decide)
theorem rd_near10 : rowN (roundN (sz 4621796599590834668) 2) = ([49], 2) :=
  round_at (L := 1076) (V := 100) (lV := [49, 48, 48]) (by decide) (by decide +kernel) (by decide +kernel) (by decide) (by decide) (by decide +kernel) (dtext_canon (by decide) (by decide) (.inl (by decide))) (by decide +kernel) (by decide) (by decide) (by decide)
theorem rd_tenth20 : rowN (roundN (sz 4591870180066957722) 20) = ([49, 48, 48, 48, 48, 48, 48, 48, 48, 48, 48, 48, 48, 48, 48, 48, 48, 53, 53, 53], 0) :=
  round_at (L := 1075) (V := 10000000000000000555) (lV := [49, 48, 48, 48, 48, 48, 48, 48, 48, 48, 48, 48, 48, 48, 48, 48, 48, 53, 53, 53]) (by decide) (by decide +kernel) (by decide +kernel) (by decide) (by decide) (by decide +kernel) (dtext_canon (by decide) (by decide) (.inl (by decide))) (by decide +kernel) (by decide) (by decide) (by decide)
theorem padN_eq (x : Nat) : padN x = List.replicate (unitE + 1 - lenD x) 48 ++ dtext x := by unfold padN; exact Eq.refl _
theorem formN_eq (x : Nat) : formN x = (padN x).take ((padN x).length - unitE) ++ pB (noughtsR ((padN x).drop ((padN x).length - unitE))) := by unfold formN wholeN restN; exact Eq.refl _
theorem lastR {l : List UInt8} (h : l.getLast? ≠ some 48) : noughtsR l = l := by
  unfold noughtsR
  cases hr : l.reverse with
  | nil =>
    have : l = [] := by simpa using hr
    rw [this]; rfl
  | cons c r =>
    have e : l = r.reverse ++ [c] := by rw [← List.reverse_reverse l, hr, List.reverse_cons]
    have hc : c ≠ 48 := by
      intro h2
      apply h
      rw [e, h2]
      simp
    rw [List.dropWhile_cons_of_neg (by simpa using hc), e]
    simp
/-- The form of a number below one. -/
theorem form_less {x v j k : Nat} {l : List UInt8} (hx : x = v * 10 ^ j) (hv : v = dval l) (hl : dtext (dval l) = l) (hv0 : 0 < v) (hd : l.getLast? ≠ some 48) (hk : l.length + j + k = unitE) : formN x = [48] ++ pB (List.replicate k 48 ++ l) := by
  have hne : l ≠ [] := by intro h; rw [← hl] at h; exact dtext_ne _ h
  have ht : dtext x = l ++ List.replicate j 48 := by rw [hx, dtext_mul hv0, hv, hl]
  have hlen : lenD x = l.length + j := by unfold lenD; rw [ht, List.length_append, List.length_replicate]
  have hp := padN_eq x
  have e1 := formN_eq x
  rw [e1, hp, ht, hlen]
  generalize unitE = u at *
  rw [show u + 1 - (l.length + j) = k + 1 by omega]
  have hln : (List.replicate (k + 1) (48 : UInt8) ++ (l ++ List.replicate j 48)).length - u = 1 := by simp; omega
  rw [hln, List.replicate_succ, List.cons_append, List.take_succ_cons, List.take_zero, List.drop_succ_cons, List.drop_zero, ← List.append_assoc, noughtsR_app, lastR (by rw [List.getLast?_append]; cases hq : l.getLast? with
    | none => exact absurd (List.getLast?_eq_none_iff.1 hq) hne
    | some c => rw [hq] at hd; simpa using hd)]
/-- The form of a number from one on. -/
theorem form_more {x v j i : Nat} {l : List UInt8} (hx : x = v * 10 ^ j) (hv : v = dval l) (hl : dtext (dval l) = l) (hv0 : 0 < v) (hi : l.length + j = unitE + i) (hi0 : 0 < i) (hil : i ≤ l.length) : formN x = l.take i ++ pB (noughtsR (l.drop i)) := by
  have ht : dtext x = l ++ List.replicate j 48 := by rw [hx, dtext_mul hv0, hv, hl]
  have hlen : lenD x = l.length + j := by unfold lenD; rw [ht, List.length_append, List.length_replicate]
  have hp := padN_eq x
  have e1 := formN_eq x
  rw [e1, hp, ht, hlen]
  generalize unitE = u at *
  rw [show u + 1 - (l.length + j) = 0 by omega, List.replicate_zero, List.nil_append]
  have hln : (l ++ List.replicate j (48 : UInt8)).length - u = i := by simp; omega
  rw [hln, List.take_append_of_le_length hil, List.drop_append_of_le_length hil, noughtsR_app]
theorem form_zero : formN 0 = [48] := by
  have h2 : dtext 0 = [48] := by decide
  have h1 : lenD 0 = 1 := by decide
  rw [formN_eq, padN_eq, h1, h2]
  generalize unitE = u
  have e : List.replicate (u + 1 - 1) (48 : UInt8) ++ [48] = List.replicate (u + 1) 48 := by rw [Nat.add_sub_cancel, ← List.replicate_succ']
  rw [e, List.length_replicate, show u + 1 - u = 1 by omega, List.take_replicate, List.drop_replicate, Nat.min_eq_left (by omega), show u + 1 - 1 = u by omega]
  have := noughtsR_app [] u
  rw [List.nil_append] at this
  rw [this]
  rfl
theorem form_long {x : Nat} (h0 : x % 10 ≠ 0) (hL : lenD x ≤ unitE) : (formN x).length = unitE + 2 := by
  have hlast : (dtext x).getLast? ≠ some 48 := by
    intro h
    rcases List.eq_nil_or_concat (dtext x) with e | ⟨m, c, e⟩
    · exact dtext_ne x e
    · rw [List.concat_eq_append] at e
      rw [e, List.getLast?_append] at h
      have hc : c = 48 := by simpa using h
      have hv := dtext_val x
      rw [e, hc, dval_snoc] at hv
      apply h0
      rw [← hv]
      simp
  have hlen : (dtext x).length = lenD x := rfl
  have hne := dtext_ne x
  rw [formN_eq, padN_eq]
  generalize unitE = u at *
  generalize dtext x = l at *
  have hln : (List.replicate (u + 1 - lenD x) (48 : UInt8) ++ l).length - u = 1 := by simp; omega
  obtain ⟨k, hk⟩ : ∃ k, u + 1 - lenD x = k + 1 := ⟨u - lenD x, by omega⟩
  rw [hln, hk, List.replicate_succ, List.cons_append, List.take_succ_cons, List.take_zero, List.drop_succ_cons, List.drop_zero, lastR (by rw [List.getLast?_append]; cases hq : l.getLast? with
    | none => exact absurd (List.getLast?_eq_none_iff.1 hq) hne
    | some c => rw [hq] at hlast; simpa using hlast)]
  unfold pB
  rw [if_neg (by simp [hne])]
  simp
  omega
theorem fo_tenth (j : Nat) (hj : j = 1020) : sz 4591870180066957722 = 1000000000000000055511151231257827021181583404541015625 * 10 ^ j := by subst hj; decide +kernel
theorem form_tenth : formN (sz 4591870180066957722) = [48, 46, 49, 48, 48, 48, 48, 48, 48, 48, 48, 48, 48, 48, 48, 48, 48, 48, 48, 53, 53, 53, 49, 49, 49, 53, 49, 50, 51, 49, 50, 53, 55, 56, 50, 55, 48, 50, 49, 49, 56, 49, 53, 56, 51, 52, 48, 52, 53, 52, 49, 48, 49, 53, 54, 50, 53] := by
  obtain ⟨j, hj⟩ : ∃ j, j = 1020 := ⟨_, rfl⟩
  rw [form_less (k := 0) (l := [49, 48, 48, 48, 48, 48, 48, 48, 48, 48, 48, 48, 48, 48, 48, 48, 48, 53, 53, 53, 49, 49, 49, 53, 49, 50, 51, 49, 50, 53, 55, 56, 50, 55, 48, 50, 49, 49, 56, 49, 53, 56, 51, 52, 48, 52, 53, 52, 49, 48, 49, 53, 54, 50, 53]) (fo_tenth j hj) (by decide +kernel) (dtext_canon (by decide) (by decide) (.inl (by decide))) (by decide +kernel) (by decide) (by subst hj; rfl)]
  rfl
theorem fo_two25 (j : Nat) (hj : j = 1073) : sz 4612248968380809216 = 225 * 10 ^ j := by subst hj; decide +kernel
theorem form_two25 : formN (sz 4612248968380809216) = [50, 46, 50, 53] := by
  obtain ⟨j, hj⟩ : ∃ j, j = 1073 := ⟨_, rfl⟩
  rw [form_more (i := 1) (l := [50, 50, 53]) (fo_two25 j hj) (by decide +kernel) (dtext_canon (by decide) (by decide) (.inl (by decide))) (by decide +kernel) (by subst hj; rfl) (by decide) (by decide)]
  decide +kernel
theorem fo_onelo (j : Nat) (hj : j = 1021) : fromN 4607182418800017408 = 999999999999999944488848768742172978818416595458984375 * 10 ^ j := by subst hj; decide +kernel
theorem form_onelo : formN (fromN 4607182418800017408) = [48, 46, 57, 57, 57, 57, 57, 57, 57, 57, 57, 57, 57, 57, 57, 57, 57, 57, 52, 52, 52, 56, 56, 56, 52, 56, 55, 54, 56, 55, 52, 50, 49, 55, 50, 57, 55, 56, 56, 49, 56, 52, 49, 54, 53, 57, 53, 52, 53, 56, 57, 56, 52, 51, 55, 53] := by
  obtain ⟨j, hj⟩ : ∃ j, j = 1021 := ⟨_, rfl⟩
  rw [form_less (k := 0) (l := [57, 57, 57, 57, 57, 57, 57, 57, 57, 57, 57, 57, 57, 57, 57, 57, 52, 52, 52, 56, 56, 56, 52, 56, 55, 54, 56, 55, 52, 50, 49, 55, 50, 57, 55, 56, 56, 49, 56, 52, 49, 54, 53, 57, 53, 52, 53, 56, 57, 56, 52, 51, 55, 53]) (fo_onelo j hj) (by decide +kernel) (dtext_canon (by decide) (by decide) (.inl (by decide))) (by decide +kernel) (by decide) (by subst hj; rfl)]
  rfl
theorem fo_onehi (j : Nat) (hj : j = 1022) : toN 4607182418800017408 = 100000000000000011102230246251565404236316680908203125 * 10 ^ j := by subst hj; decide +kernel
theorem form_onehi : formN (toN 4607182418800017408) = [49, 46, 48, 48, 48, 48, 48, 48, 48, 48, 48, 48, 48, 48, 48, 48, 48, 49, 49, 49, 48, 50, 50, 51, 48, 50, 52, 54, 50, 53, 49, 53, 54, 53, 52, 48, 52, 50, 51, 54, 51, 49, 54, 54, 56, 48, 57, 48, 56, 50, 48, 51, 49, 50, 53] := by
  obtain ⟨j, hj⟩ : ∃ j, j = 1022 := ⟨_, rfl⟩
  rw [form_more (i := 1) (l := [49, 48, 48, 48, 48, 48, 48, 48, 48, 48, 48, 48, 48, 48, 48, 48, 49, 49, 49, 48, 50, 50, 51, 48, 50, 52, 54, 50, 53, 49, 53, 54, 53, 52, 48, 52, 50, 51, 54, 51, 49, 54, 54, 56, 48, 57, 48, 56, 50, 48, 51, 49, 50, 53]) (fo_onehi j hj) (by decide +kernel) (dtext_canon (by decide) (by decide) (.inl (by decide))) (by decide +kernel) (by subst hj; rfl) (by decide) (by decide)]
  decide +kernel
theorem fo_odlo (j : Nat) (hj : j = 1075) : fromN 4845873199050653697 = 9007199254740993 * 10 ^ j := by subst hj; decide +kernel
theorem form_odlo : formN (fromN 4845873199050653697) = [57, 48, 48, 55, 49, 57, 57, 50, 53, 52, 55, 52, 48, 57, 57, 51] := by
  obtain ⟨j, hj⟩ : ∃ j, j = 1075 := ⟨_, rfl⟩
  rw [form_more (i := 16) (l := [57, 48, 48, 55, 49, 57, 57, 50, 53, 52, 55, 52, 48, 57, 57, 51]) (fo_odlo j hj) (by decide +kernel) (dtext_canon (by decide) (by decide) (.inl (by decide))) (by decide +kernel) (by subst hj; rfl) (by decide) (by decide)]
  decide +kernel
theorem fo_odhi (j : Nat) (hj : j = 1075) : toN 4845873199050653697 = 9007199254740995 * 10 ^ j := by subst hj; decide +kernel
theorem form_odhi : formN (toN 4845873199050653697) = [57, 48, 48, 55, 49, 57, 57, 50, 53, 52, 55, 52, 48, 57, 57, 53] := by
  obtain ⟨j, hj⟩ : ∃ j, j = 1075 := ⟨_, rfl⟩
  rw [form_more (i := 16) (l := [57, 48, 48, 55, 49, 57, 57, 50, 53, 52, 55, 52, 48, 57, 57, 53]) (fo_odhi j hj) (by decide +kernel) (dtext_canon (by decide) (by decide) (.inl (by decide))) (by decide +kernel) (by subst hj; rfl) (by decide) (by decide)]
  decide +kernel
end Go.Proofs.YtnajondbdeclmaaGreatDoor.digitsKnown
