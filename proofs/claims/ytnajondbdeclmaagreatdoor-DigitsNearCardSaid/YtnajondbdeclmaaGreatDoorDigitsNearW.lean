/- The walk of DigitsNear. -/
import Derived.Test.YtnajondbdeclmaaGreatDoorDown
import Derived.Test.YtnajondbdeclmaaGreatDoorDigitsAllW
namespace Go.Proofs.YtnajondbdeclmaaGreatDoor
open Go.RowKit
set_option linter.unusedSimpArgs false
set_option linter.unusedVariables false

/-- A text's length. -/
def sLen : Value → Nat
  | .string b => b.size
  | _ => 0
theorem up_d (a : List UInt8) (k : Nat) (hk : a.length = k) (hl : k ≤ 100000) (w : World) :
    Calls Tryz.prog 39 #[.string ⟨(a ++ [48]).toArray⟩] w fun e w' => e = .returned (.string ⟨(a ++ [53]).toArray⟩) ∧ w = w' := by
  have hcut := cut_take (a ++ [48]) k
  rw [List.take_append_of_le_length (by omega), List.take_of_length_le (by omega)] at hcut
  obtain ⟨K, hK⟩ : ∃ K, (a ++ [48] : List UInt8).length = K := ⟨_, rfl⟩
  have hKk : K = k + 1 := by rw [← hK, List.length_append, List.length_singleton, hk]
  have hcat := sv_cat a [53]
  have hI : (k : Int) ≤ 100000 := by omega
  have kw : IntKind.i64.wrap ((K : Int) - 1) = (k : Int) := by rw [IntWalk.i64_in _ (by omega)]; omega
  have kI : (K : Int) - 1 = (k : Int) := by omega
  have hkK : k ≤ K := by omega
  clear hKk
  generalize a ++ [48] = W at *
  generalize a ++ [53] = U at *
  have hal : ((a.length : Nat) : Int) ≤ 100000 := by omega
  clear hk
  go_enter Tryz.func39, Tryz.ntmps39
  go_wp2_with fail
  go_ret
  exact ⟨rfl, rfl⟩
theorem down_t (a t : List UInt8) (hd : ∀ c ∈ a, isD c = true) (hp : 0 < dval a) (hl : a.length ≤ 100000) (td : ∀ c ∈ t, isD c = true) (tv : dval t + 5 = dval (a ++ [48])) (tl : t.length = (a ++ [48]).length) (w : World) :
    Calls Tryz.prog 38 #[.string ⟨(a ++ [48]).toArray⟩] w fun e w' => e = .returned (.string ⟨t.toArray⟩) ∧ Below w.heap.size w w' := by
  refine (down_any a hd hp hl w).mono ?_
  rintro e w' ⟨u, rfl, h1, h2, h3, hb⟩
  have h := eq_val h1 td (by omega)
  rw [decide_eq_true (by omega)] at h
  rw [beq_iff_eq.1 h]
  exact ⟨rfl, hb⟩
theorem near_fall {X S k : Nat} (h : k < lenD S) (hk : 1 ≤ k) (hX : X = roundN S k) : lenD S ≤ lenD X ∧ k + 1 ≤ lenD X ∧ X ≤ S + 5 * 10 ^ (lenD X - (k + 1)) ∧ S ≤ X + 5 * 10 ^ (lenD X - (k + 1)) := by
  obtain ⟨h1, h2, v, h3, h4⟩ := round_near h
  rw [← hX] at h1 h2 h3
  have hS : 0 < S := by
    rcases Nat.eq_zero_or_pos S with h0 | h0
    · rw [h0] at h
      have : lenD 0 = 1 := by decide
      omega
    · exact h0
  have hge := lenD_ge hS
  have hv : 10 ^ (k - 1) ≤ v := by
    have : 10 ^ (k - 1) ≤ S / 10 ^ (lenD S - k) := by
      rw [Nat.le_div_iff_mul_le (pow10 _), ← Nat.pow_add, show k - 1 + (lenD S - k) = lenD S - 1 by omega]
      exact hge
    omega
  have hXge : 10 ^ (lenD S - 1) ≤ X := by
    rw [h3, show lenD S - 1 = k - 1 + (lenD S - k) by omega, Nat.pow_add]
    exact Nat.mul_le_mul_right _ hv
  have hlt := lenD_lt X
  have hL : lenD S ≤ lenD X := by
    have := (Nat.pow_lt_pow_iff_right (show 1 < 10 by decide)).1 (Nat.lt_of_le_of_lt hXge hlt)
    omega
  have hp : 10 ^ (lenD S - k) ≤ 10 * 10 ^ (lenD X - (k + 1)) := by
    rw [Nat.mul_comm, ← Nat.pow_succ]
    exact Nat.pow_le_pow_right (by decide) (by omega)
  generalize 10 ^ (lenD X - (k + 1)) = q at *
  generalize 10 ^ (lenD S - k) = p at *
  exact ⟨hL, by omega, by omega, by omega⟩
end Go.Proofs.YtnajondbdeclmaaGreatDoor
namespace Go.Proofs.YtnajondbdeclmaaGreatDoor.digitsNear
open Go.RowKit
set_option linter.unusedSimpArgs false
set_option linter.unusedVariables false

set_option maxRecDepth 100000 in
set_option maxHeartbeats 4000000 in
theorem near5_walk (n b k : Nat) (d a t l m : List UInt8) (x : Int) (y z : Int) (w : World)
    (hand : bits .andNot .u64 (n : Int) 9223372036854775808 = (b : Int))
    (hsh : (IntKind.u64.wrap ((n : Int) * 2) == 0) = false) (hk1 : 1 ≤ k) (hk2 : k ≤ 60) (hdl : d.length ≤ k) (hx1 : -100000 ≤ x) (hx2 : x ≤ 100000)
    (ha : a = d ++ List.replicate (k - d.length) 48)
    (hy : y ≤ 0) (hz : 0 ≤ z) (htl : t.length ≤ 100)
    (hl : l = t ++ 101 :: Lib.itoa (x - ((k + 1 : Nat) : Int))) (hm : m = (a ++ [53]) ++ 101 :: Lib.itoa (x - ((k + 1 : Nat) : Int)))
    (HF : Hid (∀ W, Calls Tryz.prog 33 #[.int .u64 (n : Int)] W fun e w' => e = .returned (.bool true) ∧ W = w'))
    (HR : Hid (∀ W, Calls Tryz.prog 24 #[.int .u64 (n : Int), .int .i64 k] W fun e w' => e = .returned (.tuple #[.string ⟨d.toArray⟩, .int .i64 x, .nilIface]) ∧ Below W.heap.size W w'))
    (HRI : Hid (∀ W, Calls Tryz.prog 34 #[.string ⟨d.toArray⟩] W fun e w' => e = .returned (.bool true) ∧ W = w'))
    (HD : Hid (∀ W, Calls Tryz.prog 38 #[.string ⟨(a ++ [48]).toArray⟩] W fun e w' => ∃ u : List UInt8, noughtsL u = t ∧ e = .returned (.string ⟨u.toArray⟩) ∧ Below W.heap.size W w'))
    (HI : Hid (∀ W, Below w.heap.size w W → Calls Tryz.prog 35 #[.int .i64 (x - ((k + 1 : Nat) : Int))] W fun e w' => e = .returned (.string ⟨(Lib.itoa (x - ((k + 1 : Nat) : Int))).toArray⟩) ∧ Below W.heap.size W w'))
    (HA : Hid (∀ W, Calls Tryz.prog 36 #[.string ⟨l.toArray⟩, .int .u64 (b : Int)] W fun e w' => e = .returned (.tuple #[.int .i64 y, .nilIface]) ∧ Below W.heap.size W w'))
    (HB : Hid (∀ W, Calls Tryz.prog 36 #[.string ⟨m.toArray⟩, .int .u64 (b : Int)] W fun e w' => e = .returned (.tuple #[.int .i64 z, .nilIface]) ∧ Below W.heap.size W w'))
    (HW : Hid (∀ W, Below w.heap.size w W → Calls Tryz.prog 16 #[] W fun e w' => e = .returned (.bool true) ∧ Below W.heap.size W w')) :
    Calls Tryz.prog 8 #[.int .u64 (n : Int), .int .i64 k] w fun e w' => e = .returned (.bool true) ∧ Below w.heap.size w w' := by
  have h48 : ((48 : UInt8).toNat) < 128 := by decide
  have HTL := Lib.hid (fun W (u : List UInt8) => Tryz.strings_TrimLeft_one ⟨u.toArray⟩ 48 h48 W)
  have htrim : ∀ u : List UInt8, Lib.trimLeftB (⟨u.toArray⟩ : ByteArray).data.toList 48 = noughtsL u := fun u => rfl
  simp only [htrim] at HTL
  have BB := Lib.hid (Below.refl w.heap.size w)
  have t1 : decide ((k : Int) < 1) = false := decide_eq_false (by omega)
  have t2 : decide ((60 : Int) < (k : Int)) = false := decide_eq_false (by omega)
  obtain ⟨K, hK⟩ : ∃ K, k + 1 = K := ⟨_, rfl⟩
  have kI : (k : Int) + 1 = (K : Int) := by omega
  have hKI : (K : Int) ≤ 61 := by omega
  obtain ⟨la, hla⟩ : ∃ la, d.length = la := ⟨_, rfl⟩
  have t3 : decide ((k : Int) < (d.length : Int)) = false := decide_eq_false (by omega)
  have t3' : decide (k < d.length) = false := decide_eq_false (by omega)
  have hal : a.length = k := by rw [ha]; simp; omega
  have HU := Lib.hid (fun W => up_d a k hal (by omega) W)
  have HK := Lib.hid hK
  have HLA := Lib.hid hla
  have HAA := Lib.hid ha
  have HDL := Lib.hid hdl
  have HAL := Lib.hid hal
  rw [hK] at hl hm HI
  obtain ⟨E, hE⟩ : ∃ E, x - (K : Int) = E := ⟨_, rfl⟩
  rw [hE] at hl hm HI
  have hEl : (Lib.itoa E).length ≤ 21 := itoa_len21 E (by omega) (by omega)
  have hEI : ((Lib.itoa E).length : Int) ≤ 21 := by omega
  have htI : (t.length : Int) ≤ 100 := by omega
  generalize Lib.itoa E = it at *
  have HL := Lib.hid hl
  have HM := Lib.hid hm
  have hc1 := sv_cat [101] it
  have hc2 := sv_cat t (101 :: it)
  have hc3 := sv_cat (a ++ [53]) (101 :: it)
  rw [← hl] at hc2
  rw [← hm] at hc3
  rw [List.singleton_append] at hc1
  have l1 : (((101 :: it).length : Nat) : Int) ≤ 22 := by rw [List.length_cons]; omega
  have l2 : (((a ++ [53]).length : Nat) : Int) ≤ 61 := by rw [List.length_append, List.length_singleton]; omega
  have hw1 : (d ++ List.replicate (K - la) 48) = a ++ [48] := by
    rw [ha, ← hK, hla, show k + 1 - la = k - la + 1 by omega, List.replicate_succ', List.append_assoc]
  have HWW := Lib.hid hw1
  have hs := hsh
  clear hk1 hk2 hdl ha hl hm hK hla hal hw1 hsh h48 htrim hEl htl
  have HYZ := Lib.hid (And.intro hy hz)
  have t4 : decide (y ≤ 0) = true := decide_eq_true hy
  have t5 : decide (0 ≤ z) = true := decide_eq_true hz
  clear hy hz
  go_enter Tryz.func8, Tryz.ntmps8
  go_wp2_with fail
  refine (HF.out _).mono ?_
  rintro e w0 ⟨rfl, rfl⟩
  go_wp2_with fail
  refine (HR.out _).mono ?_
  rintro e w1 ⟨rfl, hb⟩
  have BB := Lib.hid (keepb BB.out hb)
  clear hb
  go_wp2_with fail
  refine (HRI.out _).mono ?_
  rintro e w2 ⟨rfl, rfl⟩
  go_wp2_with fail
  clear t1 t2 t3 t3' hs hand
  go_loopw [9] (fun s9 wr => ∃ j : Nat, s9 = .string ⟨(d ++ List.replicate j 48).toArray⟩ ∧ la + j ≤ K ∧ Below w.heap.size w wr) (fun s9 _ => K - sLen s9)
  case atStart => exact ⟨0, by simp, by have := HDL.out; have := HK.out; have := HLA.out; omega, BB.out⟩
  case round =>
    obtain ⟨j, rfl, hj, hbel⟩ := hrel
    obtain ⟨wi, rfl⟩ : ∃ wi : World, wi = wr := ⟨_, rfl⟩
    have HE := Lib.hid hbel
    clear hbel BB
    by_cases hlt : la + j < K
    · have hcat := sv_cat (d ++ List.replicate j 48) [48]
      have hnx : d ++ List.replicate j 48 ++ [48] = d ++ List.replicate (j + 1) (48 : UInt8) := by rw [List.append_assoc, ← List.replicate_succ']
      have HNX := Lib.hid hnx
      have hLl : (d ++ List.replicate j (48 : UInt8)).length = la + j := by simp [HLA.out]
      clear hnx
      generalize hD : d ++ List.replicate j (48 : UInt8) = D at *
      obtain ⟨q, hq⟩ : ∃ q, la + j = q := ⟨_, rfl⟩
      rw [hq] at hLl hlt
      have q1 : decide ((q : Int) < (K : Int)) = true := decide_eq_true (by omega)
      have q1' : decide (q < K) = true := decide_eq_true hlt
      have hqI : (q : Int) ≤ 61 := by omega
      clear hD
      go_wp2_with fail
      refine ⟨⟨j + 1, by rw [HNX.out], by omega, HE.out⟩, ?_⟩
      show K - (D ++ [48]).length < K - D.length
      rw [List.length_append, List.length_singleton]
      omega
    · have hjj : j = K - la := by omega
      rw [hjj, HWW.out]
      have hWl : (a ++ [48] : List UInt8).length = K := by rw [List.length_append, List.length_singleton, HAL.out]; exact HK.out
      have hcx : x - (K : Int) = E := hE
      clear hlt hj hjj
      have BB := Lib.hid HE.out
      generalize a ++ [48] = W at *
      generalize a ++ [53] = U at *
      have q1 : decide ((K : Int) < (K : Int)) = false := decide_eq_false (by omega)
      have q1' : decide (K < K) = false := decide_eq_false (by omega)
      have kE : IntKind.i64.wrap (x - (K : Int)) = E := by rw [hE]; exact IntWalk.i64_in _ (by omega)
      go_wp2_with fail
      refine (HI.out _ BB.out).mono ?_
      rintro e wq ⟨rfl, hb⟩
      have BB := Lib.hid (keepb BB.out hb)
      clear hb
      go_wp2_with fail
      refine (HD.out _).mono ?_
      rintro e wq ⟨u, hu, rfl, hb⟩
      have BB := Lib.hid (keepb BB.out hb)
      clear hb
      have HTU := Lib.hid (fun W => HTL.out W u)
      rw [hu] at HTU
      clear hu
      go_wp2_with fail
      refine (HTU.out _).mono ?_
      rintro e wq ⟨rfl, rfl⟩
      go_wp2_with fail
      refine (HA.out _).mono ?_
      rintro e wq ⟨rfl, hb⟩
      have BB := Lib.hid (keepb BB.out hb)
      clear hb
      go_wp2_with fail
      refine (HU.out _).mono ?_
      rintro e wq ⟨rfl, rfl⟩
      go_wp2_with fail
      refine (HB.out _).mono ?_
      rintro e wq ⟨rfl, hb⟩
      have BB := Lib.hid (keepb BB.out hb)
      clear hb
      go_wp2_with fail
      refine (HW.out _ BB.out).mono ?_
      rintro e wq ⟨rfl, hb⟩
      have BB := Lib.hid (keepb BB.out hb)
      clear hb
      go_wp2_with fail
      go_ret
      exact ⟨rfl, BB.out⟩
set_option maxRecDepth 100000 in
theorem near5_no (n : Nat) (k : Int) (u g : Bool) (w : World) (hg : (IntKind.u64.wrap ((n : Int) * 2) == 0) = g)
    (h : u = true → g = true ∨ (g = false ∧ k < 1) ∨ (g = false ∧ 1 ≤ k ∧ 60 < k))
    (HF : Hid (∀ W, Calls Tryz.prog 33 #[.int .u64 (n : Int)] W fun e w' => e = .returned (.bool u) ∧ W = w'))
    (HW : Hid (∀ W, Below w.heap.size w W → Calls Tryz.prog 16 #[] W fun e w' => e = .returned (.bool true) ∧ Below W.heap.size W w')) :
    Calls Tryz.prog 8 #[.int .u64 (n : Int), .int .i64 k] w fun e w' => e = .returned (.bool true) ∧ Below w.heap.size w w' := by
  have HS := Lib.hid h
  clear h
  go_enter Tryz.func8, Tryz.ntmps8
  go_wp2_with fail
  refine (HF.out _).mono ?_
  rintro e w0 ⟨rfl, rfl⟩
  cases u with
  | false =>
    go_wp2_with fail
    refine (HW.out _ (Below.refl _ _)).mono ?_
    rintro e w6 ⟨rfl, hb⟩
    go_wp2_with fail
    go_ret
    exact ⟨rfl, hb⟩
  | true =>
    rcases HS.out (by simp) with h1 | ⟨h1, h2⟩ | ⟨h1, h2, h3⟩
    · rw [h1] at hg
      clear h1
      go_wp2_with fail
      refine (HW.out _ (Below.refl _ _)).mono ?_
      rintro e w6 ⟨rfl, hb⟩
      go_wp2_with fail
      go_ret
      exact ⟨rfl, hb⟩
    · rw [h1] at hg
      have t1 : decide (k < 1) = true := decide_eq_true h2
      clear h1 h2
      go_wp2_with fail
      refine (HW.out _ (Below.refl _ _)).mono ?_
      rintro e w6 ⟨rfl, hb⟩
      go_wp2_with fail
      go_ret
      exact ⟨rfl, hb⟩
    · rw [h1] at hg
      have t1 : decide (k < 1) = false := decide_eq_false (by omega)
      have t2 : decide (60 < k) = true := decide_eq_true h3
      clear h1 h2 h3
      go_wp2_with fail
      refine (HW.out _ (Below.refl _ _)).mono ?_
      rintro e w6 ⟨rfl, hb⟩
      go_wp2_with fail
      go_ret
      exact ⟨rfl, hb⟩
theorem shl_zero (n : Nat) : (IntKind.u64.wrap ((n : Int) * 2) == 0) = decide (n % 9223372036854775808 = 0) := by
  have e : IntKind.u64.wrap ((n : Int) * 2) = ((n : Int) * 2) % 18446744073709551616 := rfl
  rw [e, Bool.eq_iff_iff]
  simp
  omega
theorem sz_62 {b : Nat} (h0 : 0 < b) : 61 < lenD (sz b) := by
  have hF : 0 < Fl b := by
    have := Fl_lt (a := 0) (b := b)
    rw [Fl_zero] at this
    exact this.2 h0
  have h5 : 10 ^ 61 ≤ U5 := by
    unfold U5
    have h1 : 5 ^ 88 ≤ 5 ^ unitE := Nat.pow_le_pow_right (by decide) (by decide)
    have h2 : 10 ^ 61 ≤ 5 ^ 88 := by decide
    omega
  have hS : 10 ^ 61 ≤ sz b := by
    have h1 : 1 * U5 ≤ 2 * Fl b * U5 := Nat.mul_le_mul_right _ (by omega)
    unfold sz
    omega
  have h1 := lenD_lt (sz b)
  have := (Nat.pow_lt_pow_iff_right (show 1 < 10 by decide)).1 (Nat.lt_of_le_of_lt hS h1)
  omega
theorem noughtsL_dt {R : List UInt8} (h : ∀ c ∈ R, isD c = true) (hp : 0 < dval R) : noughtsL R = dtext (dval R) := by
  have hv : dval (noughtsL R) = dval R := dropZ_val R
  have h0 : noughtsL R ≠ [] := fun h0 => by rw [h0, dval_nil] at hv; omega
  have hd : ∀ c ∈ noughtsL R, isD c = true := fun c hc => h c (noughtsL_mem hc)
  have hh := noughtsL_head R
  rw [← hv]
  refine (dtext_canon hd h0 (.inl ?_)).symm
  cases hn : noughtsL R with
  | nil => exact absurd hn h0
  | cons c l =>
    rw [hn] at hh
    intro e
    apply hh
    have e2 : c = 48 := e
    rw [e2]; rfl
theorem walk (a0 a1 : Int) (w : World) (w0 : (Lit.int .u64 a0).wf = true) (w1 : (Lit.int .i64 a1).wf = true) (ht : Tab w) :
    Calls Tryz.prog 8 #[.int .u64 a0, .int .i64 a1] w fun e w' => e = .returned (.bool true) ∧ Below w.heap.size w w' := by
  obtain ⟨n, rfl, hn⟩ := word_wf w0
  clear w0 w1
  obtain ⟨b, hb⟩ : ∃ b, n % 9223372036854775808 = b := ⟨_, rfl⟩
  have hW := Lib.hid (fun W (h : Below w.heap.size w W) => works_yes W (ht.below h))
  have hsh := shl_zero n
  rw [hb] at hsh
  by_cases h1 : b ≤ most
  · have hfin : finB n = true := by unfold finB; rw [hb]; exact decide_eq_true h1
    have HF := Lib.hid (fun W => by have := finite_any n W hn; rwa [hfin] at this)
    by_cases h0 : b = 0
    · rw [decide_eq_true h0] at hsh
      exact near5_no n a1 true true w hsh (fun _ => .inl rfl) HF hW
    · rw [decide_eq_false h0] at hsh
      by_cases hk : 1 ≤ a1 ∧ a1 ≤ 60
      · obtain ⟨k, rfl⟩ : ∃ k : Nat, a1 = k := ⟨a1.toNat, by omega⟩
        have hk1 : 1 ≤ k := by omega
        have hk2 : k ≤ 60 := by omega
        have hand := andnot_top n hn
        rw [hb] at hand
        have hb0 : 0 < b := by omega
        have h62 := sz_62 hb0
        have hR := Lib.hid (fun W => rounded_fin n b k W hn hb h1 h0 hk1 (by omega))
        have hSL := lenD_le (sz_lt h1)
        have hle : lenE = 2160 := rfl
        have hu : unitE = 1075 := rfl
        obtain ⟨X, hX⟩ : ∃ X, X = roundN (sz b) k := ⟨_, rfl⟩
        rw [← hX] at hR
        obtain ⟨f1, f2, f3, f4⟩ := near_fall (by omega) hk1 hX
        obtain ⟨_, _, v, v1, v2⟩ := round_near (S := sz b) (k := k) (by omega)
        rw [← hX] at v1
        have hag : ∀ {s : List UInt8} {Y : Nat}, NumT s Y → ∀ W, Calls Tryz.prog 36 #[sv s, .int .u64 (b : Int)] W fun e w' => e = .returned (.tuple #[.int .i64 (cmpI Y (sz b)), .nilIface]) ∧ Below W.heap.size W w' := fun h W => ag_num h b h1 W
        generalize sz b = S at *
        have hXle : X ≤ 10 ^ lenD S := by
          rw [v1]
          have hp : 10 ^ lenD S = 10 ^ k * 10 ^ (lenD S - k) := by rw [← Nat.pow_add]; congr 1; omega
          rw [hp]
          refine Nat.mul_le_mul_right _ ?_
          have hd : S / 10 ^ (lenD S - k) < 10 ^ k := by
            rw [Nat.div_lt_iff_lt_mul (pow10 _), ← Nat.pow_add, show k + (lenD S - k) = lenD S by omega]
            exact lenD_lt S
          omega
        have hX0 : 0 < X := by
          rcases Nat.eq_zero_or_pos X with h | h
          · rw [h] at f2
            have : lenD 0 = 1 := by decide
            omega
          · exact h
        have hXL : lenD X ≤ lenD S + 1 := by
          have := lenD_ge hX0
          have := (Nat.pow_le_pow_iff_right (show 1 < 10 by decide)).1 (Nat.le_trans this hXle)
          omega
        obtain ⟨r1, r2, r3, r4⟩ := row_lead hX0
        obtain ⟨s1, s2, s3⟩ := row_val X
        have hrx : (rowN X).2 = (lenD X : Int) - 1075 := rfl
        have hrl : (rowN X).1.length ≤ k := by
          by_cases hv : v < 10 ^ k
          · exact bare_len (row_bare hX0) (s1.trans v1) hv
          · have hv2 : v = 10 ^ k := by
              have hd : S / 10 ^ (lenD S - k) < 10 ^ k := by
                rw [Nat.div_lt_iff_lt_mul (pow10 _), ← Nat.pow_add, show k + (lenD S - k) = lenD S by omega]
                exact lenD_lt S
              omega
            have hX1 : X = 1 * 10 ^ (k + (lenD S - k)) := by rw [v1, hv2, ← Nat.pow_add, Nat.one_mul]
            have := bare_len (row_bare hX0) (s1.trans hX1) (n := 1) (by decide)
            have h3 : (rowD (rowN X)).2.1 = (rowN X).1 := rfl
            rw [h3] at this
            omega
        have hri : rightB (rowN X).1 = true := decide_eq_true ⟨r2, r3, r4⟩
        have HRI := Lib.hid (fun W => by have := right_d (rowN X).1 r1 (by omega) W; rwa [hri] at this)
        have hs1 : dval (rowN X).1 * 10 ^ ((rowN X).2 - (rowN X).1.length + (unitE : Int)).toNat = X := s1
        generalize hd : (rowN X).1 = d at *
        obtain ⟨x, hx⟩ : ∃ x, (rowN X).2 = x := ⟨_, rfl⟩
        rw [hx] at hrx hR hs1
        obtain ⟨a, ha⟩ : ∃ a, a = d ++ List.replicate (k - d.length) 48 := ⟨_, rfl⟩
        have had : ∀ c ∈ a, isD c = true := fun c hc => by
          rw [ha] at hc
          rcases List.mem_append.1 hc with h | h
          · exact r1 c h
          · rw [List.eq_of_mem_replicate h]; rfl
        have hal : a.length = k := by rw [ha]; simp; omega
        have hah : a.head? ≠ some 48 := by
          rw [ha]
          cases hdd : d with
          | nil => exact absurd hdd r2
          | cons c l => rw [hdd] at r3; exact r3
        have hane : a ≠ [] := by intro h; rw [h] at hal; simp at hal; omega
        have hav : dval a = dval d * 10 ^ (k - d.length) := by rw [ha, dval_append, dval_zeros, List.length_replicate, Nat.add_zero]
        obtain ⟨e0, he0⟩ : ∃ e0, lenD X - (k + 1) = e0 := ⟨_, rfl⟩
        rw [he0] at f3 f4
        have hwv : dval (a ++ [48]) * 10 ^ e0 = X := by
          rw [dval_snoc, hav, ← hs1, show 10 * (dval d * 10 ^ (k - d.length)) + ((48 : UInt8).toNat - 48) = dval d * (10 ^ (k - d.length) * 10) by rw [show (48 : UInt8).toNat - 48 = 0 from rfl, Nat.add_zero, Nat.mul_comm 10, Nat.mul_assoc], ← Nat.pow_succ, Nat.mul_assoc, ← Nat.pow_add]
          congr 2
          omega
        have hw0 : dval (a ++ [48]) = 10 * dval a := by rw [dval_snoc]; rfl
        have ha0 : 0 < dval a := by
          rcases Nat.eq_zero_or_pos (dval a) with h | h
          · rw [hw0, h, Nat.mul_zero, Nat.zero_mul] at hwv
            omega
          · exact h
        have hlt := dval_lt (a ++ [48]) (fun c hc => by rcases List.mem_append.1 hc with h | h; exact had c h; rw [List.mem_singleton.1 h]; rfl)
        rw [List.length_append, List.length_singleton, hal] at hlt
        obtain ⟨T, hT⟩ : ∃ T, dval (a ++ [48]) - 5 = T := ⟨_, rfl⟩
        have hT0 : 0 < T := by omega
        have htl : (dtext T).length ≤ k + 1 := dtext_len (by omega) (by omega)
        have hE : ∀ z : List UInt8, x - ((k + 1 : Nat) : Int) = x - ((k + 1 : Nat) : Int) + z.length - z.length := fun z => by omega
        have n1 := lit_num (n := x - ((k + 1 : Nat) : Int) + (dtext T).length) (dtext_digits T) (dtext_ne T) (.inr (dtext_head hT0)) (by omega) (by omega) (by omega)
        have n2 := lit_num (d := a ++ [53]) (n := x - ((k + 1 : Nat) : Int) + (a ++ [53] : List UInt8).length) (fun c hc => by rcases List.mem_append.1 hc with h | h; exact had c h; rw [List.mem_singleton.1 h]; rfl) (by simp) (.inr (by cases haa : a with
          | nil => exact absurd haa hane
          | cons c l => rw [haa] at hah; exact hah)) (by rw [List.length_append, List.length_singleton]; omega) (by omega) (by rw [List.length_append, List.length_singleton]; omega)
        rw [valX_rowD, ← hE (dtext T), dtext_val] at n1
        rw [valX_rowD, ← hE (a ++ [53])] at n2
        have hee : (x - ((k + 1 : Nat) : Int) + (unitE : Int)).toNat = e0 := by omega
        rw [hee] at n1 n2
        have hup : dval (a ++ [53]) = dval (a ++ [48]) + 5 := by rw [dval_snoc, dval_snoc]; rfl
        have hX1 : T * 10 ^ e0 + 5 * 10 ^ e0 = X := by rw [← Nat.add_mul, show T + 5 = dval (a ++ [48]) by omega]; exact hwv
        have hX2 : dval (a ++ [53]) * 10 ^ e0 = X + 5 * 10 ^ e0 := by rw [hup, Nat.add_mul, hwv]
        unfold litL at n1 n2
        rw [← hE (dtext T)] at n1
        rw [← hE (a ++ [53])] at n2
        refine near5_walk n b k d a (dtext T) _ _ x _ _ w hand hsh hk1 hk2 hrl (by omega) (by omega) ha ?_ ?_ (by omega) rfl rfl HF hR HRI ?_ ?_ (Lib.hid (fun W => hag n1 W)) (Lib.hid (fun W => hag n2 W)) hW
        · rcases cmpI_tri (T * 10 ^ e0) S with ⟨c1, c2⟩ | ⟨c1, c2⟩ | ⟨c1, c2⟩ <;> rw [c2] <;> first | decide | (exfalso; omega)
        · rw [hX2]
          rcases cmpI_tri (X + 5 * 10 ^ e0) S with ⟨c1, c2⟩ | ⟨c1, c2⟩ | ⟨c1, c2⟩ <;> rw [c2] <;> first | decide | (exfalso; omega)
        · refine Lib.hid (fun W => (down_any a had ha0 (by omega) W).mono ?_)
          rintro e w' ⟨u, rfl, u1, u2, u3, hbb⟩
          refine ⟨u, ?_, rfl, hbb⟩
          have hu0 : dval u = T := by omega
          rw [noughtsL_dt u1 (by omega), hu0]
        · exact Lib.hid (fun W hB => itoa_d _ (by omega) (by omega) W (ht.below hB))
      · rcases Int.lt_or_le a1 1 with h | h
        · exact near5_no n a1 true false w hsh (fun _ => .inr (.inl ⟨rfl, h⟩)) HF hW
        · exact near5_no n a1 true false w hsh (fun _ => .inr (.inr ⟨rfl, h, by omega⟩)) HF hW
  · have hfin : finB n = false := by unfold finB; rw [hb]; exact decide_eq_false h1
    exact near5_no n a1 false _ w rfl (fun h => by cases h) (Lib.hid (fun W => by have := finite_any n W hn; rwa [hfin] at this)) hW
end Go.Proofs.YtnajondbdeclmaaGreatDoor.digitsNear
