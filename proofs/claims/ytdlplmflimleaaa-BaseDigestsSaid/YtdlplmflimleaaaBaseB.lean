/- The contracts of base.number and of the reference's letter, number, bit. -/
import Derived.Test.YtdlplmflimleaaaBaseA
import Derived.Test.YtdlplmflimleaaaMem
namespace Go.Proofs.Ytdlplmflimleaaa
open Go.RowKit
set_option linter.unusedSimpArgs false
set_option linter.unusedVariables false

/-- The letter of a number; a letter's number, -1 of none. -/
def LL (a : Int) : List UInt8 := (Ltr a).data.toList
theorem LL_size (a : Int) : (Ltr a).size = (LL a).length := (Array.length_toList (xs := (Ltr a).data)).symm
def Lat (a : Int) (n : Nat) : UInt8 := (LL a).getD n 0
theorem Lat_get (a : Int) (n : Nat) (h : n < (LL a).length) : Lat a n = (LL a)[n] := by simp [Lat, List.getD, h]
def Nm (a : Int) (c : UInt8) : Int := if (LL a).idxOf c < (LL a).length then ((LL a).idxOf c : Nat) else -1

theorem lat1a : ∀ n, n < 10 → ((Lat 1 n).toNat : Int) = 48 + (n : Int) := by decide +kernel
theorem lat1b : ∀ n, n < 16 → ¬ n < 10 → ((Lat 1 n).toNat : Int) = 97 + (n : Int) - 10 := by decide +kernel
theorem lat2a : ∀ n, n < 10 → ((Lat 2 n).toNat : Int) = 48 + (n : Int) := by decide +kernel
theorem lat2b : ∀ n, n < 32 → ¬ n < 10 → ((Lat 2 n).toNat : Int) = 97 + (n : Int) - 10 := by decide +kernel
theorem lat3a : ∀ n, n < 26 → ((Lat 3 n).toNat : Int) = 65 + (n : Int) := by decide +kernel
theorem lat3b : ∀ n, n < 52 → ¬ n < 26 → ((Lat 3 n).toNat : Int) = 97 + (n : Int) - 26 := by decide +kernel
theorem lat3c : ∀ n, n < 62 → ¬ n < 52 → ((Lat 3 n).toNat : Int) = 48 + (n : Int) - 52 := by decide +kernel
theorem lat3d : ((Lat 3 62).toNat : Int) = 45 := by decide +kernel
theorem lat3e : ((Lat 3 63).toNat : Int) = 95 := by decide +kernel

theorem rletter_1 (a : Int) (n : Nat) (w : World) (ha : a = 1 ∨ a = 2) (hn : n < 16 ∨ a = 2 ∧ n < 32) :
    Calls Try.prog 39 #[.int .i64 a, .int .i64 n] w fun e w' => e = .returned (.int .u8 ((Lat a n).toNat : Int)) ∧ w = w' := by
  by_cases h : n < 10
  · have e : ((Lat a n).toNat : Int) = 48 + (n : Int) := by rcases ha with rfl | rfl; exact lat1a n h; exact lat2a n h
    rw [e]
    clear e hn
    rcases ha with rfl | rfl
    all_goals
      go_enter Try.func39, Try.ntmps39
      go_wp2
      go_ret
      exact ⟨rfl, rfl⟩
  · have hn' : n < 32 := by omega
    have e : ((Lat a n).toNat : Int) = 97 + (n : Int) - 10 := by rcases ha with rfl | rfl; exact lat1b n (by omega) h; exact lat2b n hn' h
    rw [e]
    clear e hn
    rcases ha with rfl | rfl
    all_goals
      go_enter Try.func39, Try.ntmps39
      go_wp2
      go_ret
      exact ⟨rfl, rfl⟩

theorem rletter_3 (n : Nat) (w : World) (hn : n < 64) :
    Calls Try.prog 39 #[.int .i64 3, .int .i64 n] w fun e w' => e = .returned (.int .u8 ((Lat 3 n).toNat : Int)) ∧ w = w' := by
  by_cases h1 : n < 26
  · rw [lat3a n h1]
    go_enter Try.func39, Try.ntmps39
    go_wp2
    go_ret
    exact ⟨rfl, rfl⟩
  by_cases h2 : n < 52
  · rw [lat3b n h2 h1]
    go_enter Try.func39, Try.ntmps39
    go_wp2
    go_ret
    exact ⟨rfl, rfl⟩
  by_cases h3 : n < 62
  · rw [lat3c n h3 h2]
    clear h1
    go_enter Try.func39, Try.ntmps39
    go_wp2
    go_ret
    exact ⟨rfl, rfl⟩
  have h4 : n = 62 ∨ n = 63 := by omega
  clear h1 h2 h3 hn
  rcases h4 with rfl | rfl
  · rw [lat3d]
    go_enter Try.func39, Try.ntmps39
    go_wp2
    go_ret
    exact ⟨rfl, rfl⟩
  · rw [lat3e]
    go_enter Try.func39, Try.ntmps39
    go_wp2
    go_ret
    exact ⟨rfl, rfl⟩

/-- The reference's letter, by the bits. -/
theorem rletter_k (a k : Int) (n : Nat) (w : World) (hk : Bt a = k) (h0 : k = 4 ∨ k = 5 ∨ k = 6) (hn : n < 2 ^ k.toNat) :
    Calls Try.prog 39 #[.int .i64 a, .int .i64 n] w fun e w' => e = .returned (.int .u8 ((Lat a n).toNat : Int)) ∧ w = w' := by
  rcases Bt_cases a with ⟨rfl, h⟩ | ⟨rfl, h⟩ | ⟨rfl, h⟩ | ⟨h1, h2, h3, h, hl⟩
  · obtain rfl : k = 4 := by omega
    exact rletter_1 1 n w (.inl rfl) (.inl hn)
  · obtain rfl : k = 5 := by omega
    exact rletter_1 2 n w (.inr rfl) (.inr ⟨rfl, hn⟩)
  · obtain rfl : k = 6 := by omega
    exact rletter_3 n w hn
  · omega

theorem ltr_size (a k : Int) (hk : Bt a = k) (h0 : k = 4 ∨ k = 5 ∨ k = 6) : (Ltr a).size = 2 ^ k.toNat := by
  rcases Bt_cases a with ⟨rfl, h⟩ | ⟨rfl, h⟩ | ⟨rfl, h⟩ | ⟨h1, h2, h3, h, hl⟩
  · obtain rfl : k = 4 := by omega
    decide +kernel
  · obtain rfl : k = 5 := by omega
    decide +kernel
  · obtain rfl : k = 6 := by omega
    decide +kernel
  · omega

/-- What is behind a search: the first place of a letter, or none. -/
theorem nm_here (L : List UInt8) (c : UInt8) (i : Nat) (hi : i < L.length) (hle : i ≤ L.idxOf c) (hc : L[i] = c) : L.idxOf c = i := by
  induction L generalizing i with
  | nil => simp at hi
  | cons x l ih =>
    by_cases hx : x = c
    · subst hx
      simp at hle ⊢
      omega
    · have hcons : (x :: l).idxOf c = l.idxOf c + 1 := by
        have hb : (x == c) = false := by simpa using hx
        rw [List.idxOf_cons, hb]; rfl
      rw [hcons] at hle ⊢
      cases i with
      | zero => exact absurd hc hx
      | succ i => rw [ih i (by simpa using hi) (by omega) (by simpa using hc)]
theorem nm_next (L : List UInt8) (c : UInt8) (i : Nat) (hi : i < L.length) (hle : i ≤ L.idxOf c) (hc : L[i] ≠ c) : i + 1 ≤ L.idxOf c := by
  rcases Nat.lt_or_ge i (L.idxOf c) with h | h
  · exact h
  · exfalso
    have e : L.idxOf c = i := by omega
    apply hc
    have hlt : L.idxOf c < L.length := by omega
    have := List.getElem_idxOf hlt
    simpa [e] using this

theorem ret_int' {k : IntKind} {a b : Int} (h : a = b) : Ending.returned (.int k a) = .returned (.int k b) := by rw [h]

theorem bit_byte (x c : UInt8) : ((x.toNat : Int) == (c.toNat : Int)) = decide (x = c) := by
  rw [Bool.eq_iff_iff]
  simp only [beq_iff_eq, decide_eq_true_eq]
  constructor
  · intro h; exact UInt8.toNat_inj.1 (by omega)
  · intro h; rw [h]

/-- base.number. -/
theorem number_any (a : Int) (c : UInt8) (w : World) :
    Calls Try.prog 41 #[.int .u8 a, bv c] w fun e w' => e = .returned (.int .i64 (Nm a c)) ∧ Below w.heap.size w w' := by
  have kc := fun W => Lib.run_convert_string_bytes (P := Try.prog) W 9 34 5 (Ltr a) Try.underlying9 Try.underlying34 Try.underlying5
  have hsz : (Ltr a).size ≤ 64 := by
    rcases Bt_cases a with ⟨rfl, h⟩ | ⟨rfl, h⟩ | ⟨rfl, h⟩ | ⟨h1, h2, h3, h, hl⟩ <;> first | decide +kernel | (rw [hl]; decide)
  go_enter Try.func41, Try.ntmps41
  go_wp2_with (go_at_call 40; refine (letters_any _ _).mono ?_; rintro e w' ⟨rfl, rfl⟩)
  have hcell := fun j (hj : j < (Ltr a).size) => Lib.bytesWorld_cell w 5 (Ltr a) j hj
  have hbel := below_bytesWorld w 5 (Ltr a)
  generalize Lib.bytesWorld w 5 (Ltr a) = W at *
  clear kc
  have hcell' : ∀ j, (h : j < (LL a).length) → W.cell? ⟨w.heap.size, j, none⟩ = some (.int .u8 ((LL a)[j].toNat : Int)) := by
    intro j hj
    rw [hcell j (by rw [LL_size]; exact hj)]
    show some (Value.int .u8 (((LL a).getD j 0).toNat : Int)) = _
    simp [List.getD, hj]
  have HC := Lib.hid hcell'
  clear hcell hcell'
  have hle0 : (LL a).idxOf c ≤ (LL a).length := List.idxOf_le_length
  have HLE := Lib.hid hle0
  clear hle0
  have hNm : Nm a c = if (LL a).idxOf c < (LL a).length then (((LL a).idxOf c : Nat) : Int) else -1 := rfl
  have HN := Lib.hid hNm
  clear hNm
  rw [LL_size] at hsz ⊢
  generalize LL a = L at *
  go_loop [11] (fun i => ∃ k : Nat, k ≤ L.length ∧ k ≤ L.idxOf c ∧ i = .int .i64 k) (fun i => L.length - (intOf i).toNat)
  case atStart => exact ⟨0, by omega, by omega, rfl⟩
  case round =>
    obtain ⟨k, hk, hkx, rfl⟩ := hrel
    by_cases hlt : k < L.length
    · have hc0 := HC.out k hlt
      by_cases he : L[k] = c
      · have hn := nm_here _ c k hlt hkx he
        rw [he] at hc0
        have hN : Nm a c = (k : Int) := by rw [HN.out, hn, if_pos hlt]
        have HN' := Lib.hid hN
        clear hN hn he hkx
        go_wp2
        go_ret
        exact ⟨ret_int' HN'.out.symm, hbel⟩
      · have hn := nm_next _ c k hlt hkx he
        have hb : ((L[k].toNat : Int) == (c.toNat : Int)) = false := by rw [bit_byte]; simp [he]
        clear hkx
        generalize L[k] = x at *
        clear he
        go_wp2
        go_round
        case rel => exact ⟨k + 1, by omega, hn, by go_num⟩
        case measure => simp [intOf]; omega
    · have hN : Nm a c = -1 := by rw [HN.out, if_neg (by omega)]
      have HN' := Lib.hid hN
      clear hN hkx
      go_wp2
      go_ret
      exact ⟨ret_int' HN'.out.symm, hbel⟩

/-- The reference's number. -/
theorem rnumber_k (a k : Int) (c : UInt8) (w : World) (hk : Bt a = k) (h0 : k = 4 ∨ k = 5 ∨ k = 6) :
    Calls Try.prog 42 #[.int .i64 a, bv c] w fun e w' => e = .returned (.int .i64 (Nm a c)) ∧ w = w' := by
  have K : Hid (Bt a = k) := hk
  have hsz : (LL a).length = 2 ^ k.toNat := by rw [← LL_size]; exact ltr_size a k hk h0
  have HL := Lib.hid (fun n hn => rletter_k a k n w hk h0 hn)
  have HG := Lib.hid (fun n hn => Lat_get a n hn)
  have hle0 : (LL a).idxOf c ≤ (LL a).length := List.idxOf_le_length
  have HLE := Lib.hid hle0
  have hNm : Nm a c = if (LL a).idxOf c < (LL a).length then (((LL a).idxOf c : Nat) : Int) else -1 := rfl
  have HN := Lib.hid hNm
  clear hNm hle0 hk
  generalize LL a = L at *
  rcases h0 with rfl | rfl | rfl
  all_goals
    have HS := Lib.hid hsz
    clear hsz
    go_enter Try.func42, Try.ntmps42
    go_wp2
    go_loop [5] (fun i => ∃ k : Nat, k ≤ L.length ∧ k ≤ L.idxOf c ∧ i = .int .i64 k) (fun i => L.length - (intOf i).toNat)
    case atStart => exact ⟨0, by omega, by omega, rfl⟩
    case round =>
      obtain ⟨k, hk, hkx, rfl⟩ := hrel
      by_cases hlt : k < L.length
      · have hlt2 := hlt
        rw [HS.out] at hlt2
        have hlt3 := hlt2
        simp at hlt3
        have hc0 := HG.out k hlt
        have HC0 := Lib.hid hc0
        by_cases he : L[k] = c
        · have hn := nm_here _ c k hlt hkx he
          have hN : Nm a c = (k : Int) := by rw [HN.out, hn, if_pos hlt]
          have HN' := Lib.hid hN
          have hb : (((Lat a k).toNat : Int) == (c.toNat : Int)) = true := by rw [bit_byte, hc0]; simp [he]
          clear hN hn he hkx hc0
          go_wp2_with (first
            | (go_at_call 12; refine (rbits_k _ _ _ K).mono ?_; rintro e w' ⟨rfl, rfl⟩)
            | (go_at_call 39; refine (HL.out k hlt2).mono ?_; rintro e w' ⟨rfl, rfl⟩))
          go_ret
          exact ⟨ret_int' HN'.out.symm, rfl⟩
        · have hn := nm_next _ c k hlt hkx he
          have hb : (((Lat a k).toNat : Int) == (c.toNat : Int)) = false := by rw [bit_byte, hc0]; simp [he]
          clear hkx hc0 he
          go_wp2_with (first
            | (go_at_call 12; refine (rbits_k _ _ _ K).mono ?_; rintro e w' ⟨rfl, rfl⟩)
            | (go_at_call 39; refine (HL.out k hlt2).mono ?_; rintro e w' ⟨rfl, rfl⟩))
          go_round
          case rel => exact ⟨k + 1, by omega, hn, by go_num⟩
          case measure => simp [intOf]; omega
      · have hN : Nm a c = -1 := by rw [HN.out, if_neg (by omega)]
        have HN' := Lib.hid hN
        have hlt3 := hlt
        rw [HS.out] at hlt3
        simp at hlt3
        clear hN hkx
        go_wp2_with (first
            | (go_at_call 12; refine (rbits_k _ _ _ K).mono ?_; rintro e w' ⟨rfl, rfl⟩))
        go_ret
        exact ⟨ret_int' HN'.out.symm, rfl⟩

end Go.Proofs.Ytdlplmflimleaaa
