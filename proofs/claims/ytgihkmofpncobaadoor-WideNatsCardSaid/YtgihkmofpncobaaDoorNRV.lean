/- What the program's steps answer, in one form; put of any answer; powers and shifts of every kind. -/
import Derived.Test.YtgihkmofpncobaaDoorNRU
import Derived.Test.YtgihkmofpncobaaDoorNRK
import Derived.Test.YtgihkmofpncobaaDoorNatP
namespace Go.Proofs.YtgihkmofpncobaaDoor
open Go.RowKit
set_option linter.unusedSimpArgs false
set_option linter.unusedVariables false

/-- A number without an error, or an error's number. -/
def Ans (x : Nat) (no : Int) (w : World) (A : Option Addr) (n c : Nat) (er : Value) : Prop :=
  (no = 0 ∧ er = .nilIface ∧ NatL w A n c x ∧ blen x ≤ 8192) ∨ (no ≠ 0 ∧ er = enoV no ∧ A = none ∧ n = 0 ∧ c = 0)
theorem Ans.below {x : Nat} {no : Int} {w w' : World} {A : Option Addr} {n c : Nat} {er : Value} (h : Ans x no w A n c er) (hb : Below w.heap.size w w') : Ans x no w' A n c er := by
  rcases h with ⟨h1, h2, h3, h4⟩ | h
  · exact .inl ⟨h1, h2, h3.below hb, h4⟩
  · exact .inr h
theorem Ans.set {x : Nat} {no : Int} {w : World} {A : Option Addr} {n c b i : Nat} {er : Value} {t : TypeId} {cs : Array Value} (h : Ans x no w A n c er) (hB : Blk w b t cs) (hne : 35 ≠ t) (u : Value) : Ans x no (w.setCell ⟨b, i, none⟩ u) A n c er := by
  rcases h with ⟨h1, h2, h3, h4⟩ | h
  · exact .inl ⟨h1, h2, h3.set hB hne u, h4⟩
  · exact .inr h
def AnsE (x : Nat) (no : Int) (w : World) (e : Ending) (w' : World) : Prop := ∃ A n c er, e = .returned (.tuple #[.agg #[.slice A n c], er]) ∧ Ans x no w' A n c er ∧ Below w.heap.size w w'
theorem over_blen {x M : Nat} (hM : M = 8192) : overB x M = decide (¬ blen x ≤ 8192) := by
  unfold overB
  rw [decide_eq_decide, Nat.not_le, ← hM, ← Nat.not_le, blen_le, Nat.not_lt]
theorem over_yes {x M : Nat} (hM : M = 8192) (h : ¬ blen x ≤ 8192) : overB x M = true := by rw [over_blen hM]; exact decide_eq_true h
theorem over_no {x M : Nat} (hM : M = 8192) (h : blen x ≤ 8192) : overB x M = false := by rw [over_blen hM]; exact decide_eq_false (fun k => k h)
theorem over_small {x M : Nat} (hM : M = 8192) (h : overB x M = false) : blen x ≤ 8192 := by
  rw [over_blen hM] at h
  exact Decidable.not_not.1 (of_decide_eq_false h)
theorem NatQ.ans {x M : Nat} {w : World} {A : Option Addr} {n c : Nat} {er : Value} (h : NatQ x w A n c er) (hM : M = 8192) : Ans x (lessV (!overB x M) 11) w A n c er := by
  unfold NatQ at h
  by_cases hb : blen x ≤ 8192
  · rw [if_pos hb] at h
    rw [over_no hM hb]
    exact .inl ⟨rfl, h.1, h.2, hb⟩
  · rw [if_neg hb] at h
    rw [over_yes hM hb]
    exact .inr ⟨by decide, h.1, h.2⟩
theorem NatB.ans {x M : Nat} {w w' : World} {e : Ending} (h : NatB x w e w') (hM : M = 8192) : AnsE x (lessV (!overB x M) 11) w e w' := by
  obtain ⟨A, n, c, er, h1, h2, h3⟩ := h.open
  exact ⟨A, n, c, er, h1, h2.ans hM, h3⟩
theorem NatE.ans {x : Nat} {w w' : World} {e : Ending} (h : NatE x w e w') (hx : blen x ≤ 8192) : AnsE x 0 w e w' := by
  obtain ⟨v, h1, ⟨A, n, c, rfl, h2⟩, h3⟩ := h
  exact ⟨A, n, c, _, h1, .inl ⟨rfl, rfl, h2, hx⟩, h3⟩
theorem NatF.ans {x : Nat} {no : Int} {w w' : World} {e : Ending} (h : NatF no w e w') (hno : no ≠ 0) : AnsE x no w e w' := by
  obtain ⟨h1, h3⟩ := h
  exact ⟨none, 0, 0, _, h1, .inr ⟨hno, rfl, rfl, rfl, rfl⟩, h3⟩

/-- What a put leaves. -/
def PutQ (base hi rb : Nat) (xs : List Nat) (w : World) (e : Ending) (w' : World) : Prop :=
  e = .returned (.bool true) ∧ (∃ h2 ys, xs.length ≤ ys.length ∧ ys.length ≤ xs.length + 1 ∧ Row base h2 w' rb ys) ∧ Keeps hi w w' ∧ Below base w w'
theorem Row.base_le {base hi : Nat} {w : World} {rb : Nat} {xs : List Nat} (h : Row base hi w rb xs) : base ≤ w.heap.size := by
  obtain ⟨gp, cp, gd, cd, P, D, h⟩ := h
  have h1 := h.brb; have h2 := h.hrb; have h3 := h.le
  omega
theorem put_any (base hi rb : Nat) (xs : List Nat) (x : Nat) (no : Int) (A B : Option Addr) (n c m d : Nat) (er : Value) (w : World) (hrow : Row base hi w rb xs) (ha : Ans x no w A n c er) (hk : no = 0 → RatL w B m d x) (hlen : (xs.length + 1) * 24 ≤ 140737488355328) :
    Calls Tryd.prog 13 #[.pointer (some ⟨rb, 0, none⟩), .agg #[.slice A n c], er, .agg #[.slice B m d], .int .i64 no] w (PutQ base hi rb xs w) := by
  have hbl := hrow.base_le
  rcases ha with ⟨rfl, rfl, hl, hx⟩ | ⟨hno, rfl, rfl, rfl, rfl⟩
  · obtain ⟨gp, cp, gd, cd, P, D, h⟩ := hrow
    refine (put_core base hi rb gp cp gd cd xs P D x A B n c m d w h hl (hk rfl) hx hlen).mono ?_
    rintro e w' ⟨h1, ⟨h2, h3⟩, h4, h5⟩
    exact ⟨h1, ⟨h2, _, by simp, by simp, h3⟩, h4, h5⟩
  · refine (put_bad _ no B m d w hno).mono ?_
    rintro e w' ⟨h1, hb⟩
    exact ⟨h1, ⟨hi, xs, Nat.le_refl _, Nat.le_succ _, hrow.below hb⟩, Keeps.of_below hb, hb.mono hbl⟩

set_option maxRecDepth 100000 in
theorem power_neg (b n : Int) (w : World) (hn : n < 0) : Calls Tryd.prog 16 #[.int .u64 b, .int .i64 n] w (NatF 2 w) := by
  have t1 : decide (n < 0) = true := decide_eq_true hn
  have HK := Lib.hid (Blk.new w 26 #[.slice none 0 0])
  have hp := HK.out.put (i := 0) (by simp) (.slice none 0 0)
  go_enter Tryd.func16, Tryd.ntmps16
  go_wp2_with fail
  exact bodyPost_ret (v := .tuple #[.agg #[.slice none 0 0], enoV 2]) (by simp [results, Tryd.results16, go_sem, hp]) rfl ⟨rfl, by go_grown⟩
set_option maxRecDepth 100000 in
theorem power_far (b : Nat) (n : Int) (w : World) (hb : 2 ≤ b) (hn : 8192 < n) : Calls Tryd.prog 16 #[wv b, .int .i64 n] w (NatF 11 w) := by
  have t1 : decide (n < 0) = false := decide_eq_false (by omega)
  have t2 : (n == 0) = false := by rw [beq_eq_false_iff_ne]; omega
  have t3 : decide ((b : Int) < 2) = false := decide_eq_false (by omega)
  have t4 : decide (8192 < n) = true := decide_eq_true hn
  have HK := Lib.hid (Blk.new w 26 #[.slice none 0 0])
  have hp := HK.out.put (i := 0) (by simp) (.slice none 0 0)
  clear hb
  go_enter Tryd.func16, Tryd.ntmps16
  go_wp2_with fail
  exact bodyPost_ret (v := .tuple #[.agg #[.slice none 0 0], enoV 11]) (by simp [results, Tryd.results16, go_sem, hp]) rfl ⟨rfl, by go_grown⟩
set_option maxRecDepth 100000 in
theorem power_small (b : Nat) (n : Int) (w : World) (hb : b < 2) (hn : 0 < n) : Calls Tryd.prog 16 #[wv b, .int .i64 n] w (NatE b w) := by
  have HO := Lib.hid (fun W => (show Calls Tryd.prog 14 #[.int .u64 (b : Int)] W (NatV b W) from of_nat b W (by unfold W64; omega)))
  have t1 : decide (n < 0) = false := decide_eq_false (by omega)
  have t2 : (n == 0) = false := by rw [beq_eq_false_iff_ne]; omega
  have t3 : decide ((b : Int) < 2) = true := decide_eq_true (by omega)
  have t3' : decide (b < 2) = true := decide_eq_true hb
  have HK0 := Lib.hid (Blk.new w 26 #[.slice none 0 0])
  have HB0 := Lib.hid ((Below.refl _ w).alloc (Nat.le_refl _) (.cells #[.slice none 0 0] 26))
  clear hb hn
  go_enter Tryd.func16, Tryd.ntmps16
  go_wp2_with fail
  refine (HO.out _).mono ?_
  rintro e w1 hv
  obtain ⟨A1, n1, c1, rfl, hl1, hb1⟩ := hv.open
  have HK1 := Lib.hid (HK0.out.below hb1 HK0.out.lt)
  have HB1 := Lib.hid (keepb HB0.out hb1)
  have HL1 := Lib.hid hl1
  clear hb1 hl1 hv
  have hcl : w1.cell? ⟨w.heap.size, 0, none⟩ = some (.slice none 0 0) := HK1.out.cell 0
  have hfr := HK1.out.frozen 0
  go_wp2_with fail
  have hp := HK1.out.put (i := 0) (by simp) (.slice A1 n1 c1)
  have hW := (show NatW w1 (.agg #[.slice A1 n1 c1]) b from ⟨A1, n1, c1, rfl, HL1.out⟩).set HK1.out (by decide) (i := 0) (.slice A1 n1 c1)
  exact bodyPost_ret (v := .tuple #[.agg #[.slice A1 n1 c1], .nilIface]) (by simp [results, Tryd.results16, go_sem, hp]) rfl ⟨_, rfl, hW, HB1.out.setCell (p := ⟨w.heap.size, 0, none⟩) (Nat.le_refl _) _⟩
theorem power_any (b M : Nat) (n : Int) (w : World) (hb : b < W64) (hn : 0 ≤ n) (hM : M = 8192) :
    Calls Tryd.prog 16 #[wv b, .int .i64 n] w (AnsE (powV b n M).1 (lessV (powV b n M).2 11) w) := by
  have h1 : blen 1 ≤ 8192 := by decide
  by_cases h0 : n = 0
  · subst h0
    have hv : powV b 0 M = (1, true) := by unfold powV; rw [if_pos rfl]
    rw [hv]
    exact (power_zero (b : Int) w).mono fun e w' h => h.ans h1
  by_cases hb2 : b < 2
  · have hv : powV b n M = (b, true) := by unfold powV; rw [if_neg h0, if_pos hb2]
    rw [hv]
    refine (power_small b n w hb2 (by omega)).mono fun e w' h => h.ans ?_
    rcases (show b = 0 ∨ b = 1 by omega) with rfl | rfl <;> decide
  by_cases hf : 8192 < n
  · have hv : powV b n M = (0, false) := by unfold powV; rw [if_neg h0, if_neg hb2, if_pos hf]
    rw [hv]
    exact (power_far b n w (by omega) hf).mono fun e w' h => h.ans (by decide)
  · have hv := powV_loop h0 hb2 hf hM
    obtain ⟨k, rfl⟩ : ∃ k : Nat, n = (k : Int) := ⟨n.toNat, by omega⟩
    rw [Int.toNat_natCast] at hv
    refine (power_nat b k w (by omega) hb (by omega) (by omega)).mono fun e w' h => ?_
    have h2 := NatB.ans h hM
    by_cases ho : overB (b ^ k) M = true
    · rw [if_pos ho] at hv
      rw [hv]
      rw [ho] at h2
      obtain ⟨A, n, c, er, h3, h4, h5⟩ := h2
      rcases h4 with ⟨h4, _⟩ | h4
      · exact absurd h4 (by decide)
      · exact ⟨A, n, c, er, h3, .inr h4, h5⟩
    · have ho : overB (b ^ k) M = false := by simpa using ho
      rw [if_neg (by rw [ho]; decide)] at hv
      rw [hv]
      rw [ho] at h2
      exact h2
/-- A shift down by what is beyond all bits. -/
theorem shr_same {x K M : Nat} (hM : M = 8192) (hx : blen x ≤ M) (hK : M ≤ K) : x / 2 ^ M = x / 2 ^ K ∧ decide (x % 2 ^ M ≠ 0) = decide (x % 2 ^ K ≠ 0) := by
  have h1 : x < 2 ^ M := blen_le.1 hx
  have h2 : x < 2 ^ K := Nat.lt_of_lt_of_le h1 (Nat.pow_le_pow_right (by decide) hK)
  rw [Nat.div_eq_of_lt h1, Nat.div_eq_of_lt h2, Nat.mod_eq_of_lt h1, Nat.mod_eq_of_lt h2]
  exact ⟨rfl, rfl⟩
/-- The document's shift down, as the program's. -/
theorem rdown_any (v : Value) (x M Y : Nat) (k : Int) (w : World) (hv : RatW w v x) (hM : M = 8192) (hY : Y = 4096) (hx : blen x ≤ M) :
    Calls Tryd.prog 37 #[v, .int .i64 k] w (DownP x k.toNat w) := by
  have hb := blen_b4 (x := x) (M := M) (m := Y) hx hM hY
  rcases Int.lt_or_le k 0 with h | h
  · exact (rdown_nat v x Y 0 k w hv hb (by omega) (.inl ⟨h, rfl⟩)).mono fun e w' h1 => by rwa [show k.toNat = 0 by omega]
  · rcases Int.lt_or_le 8192 k with h2 | h2
    · refine (rdown_nat v x Y 8192 k w hv hb (by omega) (.inr (.inr ⟨h2, rfl⟩))).mono fun e w' h1 => ?_
      obtain ⟨A, n, c, h3, h4, h5⟩ := h1
      rw [← hM] at h3 h4
      obtain ⟨e1, e2⟩ := shr_same (K := k.toNat) hM hx (by omega)
      rw [e2] at h3
      rw [e1] at h4
      exact ⟨A, n, c, h3, h4, h5⟩
    · exact rdown_nat v x Y k.toNat k w hv hb (by omega) (.inr (.inl ⟨h, h2, by omega⟩))
theorem rat_bits {x M : Nat} (hx : blen x ≤ M) (hM : M = 8192) : x = 0 ∨ 0 < x := by omega
/-- What the document's shift up answers. -/
def UpE (X : Nat) (no : Int) (w : World) (e : Ending) (w' : World) : Prop := ∃ A n c b, e = .returned (.tuple #[.agg #[.slice A n c], .bool b]) ∧ no = lessV b 11 ∧ (no = 0 → RatL w' A n c X) ∧ Below w.heap.size w w'
theorem blen_shl {x k : Nat} (hx : 0 < x) (hk : 8192 < k) : ¬ blen (x * 2 ^ k) ≤ 8192 := by
  intro h
  have h1 := blen_le.1 h
  have h2 : 2 ^ k ≤ x * 2 ^ k := Nat.le_mul_of_pos_left _ hx
  have h3 := Nat.lt_of_le_of_lt h2 h1
  have h4 := (Nat.pow_lt_pow_iff_right (show 1 < 2 by decide)).1 h3
  omega
theorem rup_any (v : Value) (x M Y Z : Nat) (k : Int) (w : World) (hv : RatW w v x) (hM : M = 8192) (hY : Y = 4096) (hZ : Z = 10000) (hx : blen x ≤ M) :
    Calls Tryd.prog 35 #[v, .int .i64 k] w (UpE (x * 2 ^ k.toNat) (lessV (!overB (x * 2 ^ k.toNat) M) 11) w) := by
  have hb := blen_b4 (x := x) (M := M) (m := Y) hx hM hY
  have near : ∀ K : Nat, ((k < 0 ∧ K = 0) ∨ (x = 0 ∧ K = 0) ∨ (0 < x ∧ 0 ≤ k ∧ k ≤ 8192 ∧ k = (K : Int))) → x * 2 ^ K = x * 2 ^ k.toNat → Calls Tryd.prog 35 #[v, .int .i64 k] w (UpE (x * 2 ^ k.toNat) (lessV (!overB (x * 2 ^ k.toNat) M) 11) w) := by
    intro K hK he
    refine (rup_near v x Y K M Z k w hv hb (by omega) hK hM hZ).mono fun e w' h => ?_
    obtain ⟨A, n, c, h1, h2, h3⟩ := h
    rw [he] at h1 h2
    exact ⟨A, n, c, _, h1, rfl, fun _ => h2, h3⟩
  rcases Int.lt_or_le k 0 with h | h
  · exact near 0 (.inl ⟨h, rfl⟩) (by rw [show k.toNat = 0 by omega])
  · rcases Nat.eq_zero_or_pos x with h0 | h0
    · exact near 0 (.inr (.inl ⟨h0, rfl⟩)) (by rw [h0, Nat.zero_mul, Nat.zero_mul])
    · rcases Int.lt_or_le 8192 k with h2 | h2
      · refine (rup_far v x k w hv h0 h2).mono fun e w' h => ?_
        obtain ⟨h1, h3⟩ := h
        have ho : overB (x * 2 ^ k.toNat) M = true := over_yes hM (blen_shl h0 (by omega))
        exact ⟨none, 0, 0, false, h1, by rw [ho]; rfl, fun h => by rw [ho] at h; exact absurd h (by decide), h3⟩
      · exact near k.toNat (.inr (.inr ⟨h0, h, h2, by omega⟩)) rfl
theorem NatL.w {w : World} {A : Option Addr} {n c x : Nat} (h : NatL w A n c x) : NatW w (.agg #[.slice A n c]) x := ⟨A, n, c, rfl, h⟩
end Go.Proofs.YtgihkmofpncobaaDoor
