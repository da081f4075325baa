/- The contracts of base.letters, base.bits, base.Size, base.Room and of the reference's Bits, Size. -/
import Derived.Test.YtdlplmflimleaaaRows
import Derived.WalkKit
import Derived.WalkLawsBesides
import Derived.WalkSpells
import Derived.Lib.Hide
import Derived.Handy
namespace Go.Proofs.Ytdlplmflimleaaa
open Go.RowKit

def hexL : ByteArray := ⟨#[48, 49, 50, 51, 52, 53, 54, 55, 56, 57, 97, 98, 99, 100, 101, 102]⟩
def lowL : ByteArray := ⟨#[48, 49, 50, 51, 52, 53, 54, 55, 56, 57, 97, 98, 99, 100, 101, 102, 103, 104, 105, 106, 107, 108, 109, 110, 111, 112, 113, 114, 115, 116, 117, 118]⟩
def webL : ByteArray := ⟨#[65, 66, 67, 68, 69, 70, 71, 72, 73, 74, 75, 76, 77, 78, 79, 80, 81, 82, 83, 84, 85, 86, 87, 88, 89, 90, 97, 98, 99, 100, 101, 102, 103, 104, 105, 106, 107, 108, 109, 110, 111, 112, 113, 114, 115, 116, 117, 118, 119, 120, 121, 122, 48, 49, 50, 51, 52, 53, 54, 55, 56, 57, 45, 95]⟩
def Ltr (a : Int) : ByteArray := if a = 1 then hexL else if a = 2 then lowL else if a = 3 then webL else ⟨#[]⟩
def Bt (a : Int) : Int := if a = 1 then 4 else if a = 2 then 5 else if a = 3 then 6 else 0

theorem letters_any (a : Int) (w : World) :
    Calls Try.prog 40 #[.int .u8 a] w fun e w' => e = .returned (.string (Ltr a)) ∧ w = w' := by
  by_cases h1 : a = 1
  · subst h1
    go_enter Try.func40, Try.ntmps40
    go_wp2
    go_ret
    exact ⟨rfl, rfl⟩
  by_cases h2 : a = 2
  · subst h2
    go_enter Try.func40, Try.ntmps40
    go_wp2
    go_ret
    exact ⟨rfl, rfl⟩
  by_cases h3 : a = 3
  · subst h3
    go_enter Try.func40, Try.ntmps40
    go_wp2
    go_ret
    exact ⟨rfl, rfl⟩
  go_enter Try.func40, Try.ntmps40
  go_wp2
  go_ret
  exact ⟨by simp [Ltr, h1, h2, h3], rfl⟩

theorem Bt_cases (a : Int) : (a = 1 ∧ Bt a = 4) ∨ (a = 2 ∧ Bt a = 5) ∨ (a = 3 ∧ Bt a = 6) ∨ (a ≠ 1 ∧ a ≠ 2 ∧ a ≠ 3 ∧ Bt a = 0 ∧ Ltr a = ⟨#[]⟩) := by
  unfold Bt Ltr; by_cases h1 : a = 1 <;> by_cases h2 : a = 2 <;> by_cases h3 : a = 3 <;> simp [*]

theorem bits_k (a k : Int) (w : World) (hk : Bt a = k) :
    Calls Try.prog 35 #[.int .u8 a] w fun e w' => e = .returned (.int .i64 k) ∧ w = w' := by
  rcases Bt_cases a with ⟨rfl, h⟩ | ⟨rfl, h⟩ | ⟨rfl, h⟩ | ⟨h1, h2, h3, h, hl⟩
  · rw [hk] at h; clear hk; subst h
    have hl : (Ltr 1).toList.isEmpty = false := by decide +kernel
    go_enter Try.func35, Try.ntmps35
    go_wp2_with (go_at_call 40; refine (letters_any _ _).mono ?_; rintro e w' ⟨rfl, rfl⟩)
    go_ret
    exact ⟨rfl, rfl⟩
  · rw [hk] at h; clear hk; subst h
    have hl : (Ltr 2).toList.isEmpty = false := by decide +kernel
    go_enter Try.func35, Try.ntmps35
    go_wp2_with (go_at_call 40; refine (letters_any _ _).mono ?_; rintro e w' ⟨rfl, rfl⟩)
    go_ret
    exact ⟨rfl, rfl⟩
  · rw [hk] at h; clear hk; subst h
    have hl : (Ltr 3).toList.isEmpty = false := by decide +kernel
    go_enter Try.func35, Try.ntmps35
    go_wp2_with (go_at_call 40; refine (letters_any _ _).mono ?_; rintro e w' ⟨rfl, rfl⟩)
    go_ret
    exact ⟨rfl, rfl⟩
  · rw [hk] at h; clear hk; subst h
    have hl : (Ltr a).toList.isEmpty = true := by rw [hl]; decide +kernel
    clear h1 h2 h3
    go_enter Try.func35, Try.ntmps35
    go_wp2_with (go_at_call 40; refine (letters_any _ _).mono ?_; rintro e w' ⟨rfl, rfl⟩)
    go_ret
    exact ⟨rfl, rfl⟩

/-- The reference's Bits. -/
theorem rbits_k (a k : Int) (w : World) (hk : Bt a = k) :
    Calls Try.prog 12 #[.int .i64 a] w fun e w' => e = .returned (.int .i64 k) ∧ w = w' := by
  rcases Bt_cases a with ⟨rfl, h⟩ | ⟨rfl, h⟩ | ⟨rfl, h⟩ | ⟨h1, h2, h3, h, hl⟩
  · rw [hk] at h; clear hk; subst h
    go_enter Try.func12, Try.ntmps12
    go_wp2
    go_ret
    exact ⟨rfl, rfl⟩
  · rw [hk] at h; clear hk; subst h
    go_enter Try.func12, Try.ntmps12
    go_wp2
    go_ret
    exact ⟨rfl, rfl⟩
  · rw [hk] at h; clear hk; subst h
    go_enter Try.func12, Try.ntmps12
    go_wp2
    go_ret
    exact ⟨rfl, rfl⟩
  · rw [hk] at h; clear hk hl; subst h
    by_cases g : a < 1
    · clear h1 h2 h3
      go_enter Try.func12, Try.ntmps12
      go_wp2
      go_ret
      exact ⟨rfl, rfl⟩
    · have g' : 3 < a := by omega
      clear h1 h2 h3
      go_enter Try.func12, Try.ntmps12
      go_wp2
      go_ret
      exact ⟨rfl, rfl⟩

/-- An error made of an Errno. -/
abbrev eno (n : Int) : Value := .iface 29 (.int .i64 n)

/-- Is it an Errno? -/
theorem ta_eno_yes (n : Int) (w : World) : (Instr.typeAssert (.iface 29 (.int .i64 n)) 24 29 true).run Try.prog w = .ok (.tuple #[.int .i64 n, .bool true]) w := by kernel_rfl

theorem errno_yes (n : Int) (w : World) :
    Calls Try.prog 13 #[.iface 29 (.int .i64 n), .int .i64 n] w fun e w' => e = .returned (.bool true) ∧ w = w' := by
  have ta := fun w => ta_eno_yes n w
  go_enter Try.func13, Try.ntmps13
  go_wp2
  go_ret
  exact ⟨rfl, rfl⟩

/-- Two results of base.Size: nothing goes wrong. -/
theorem size_ok (a k n : Int) (w : World) (hk : Bt a = k) (h0 : 4 ≤ k) (h1 : k ≤ 6) (hn : 0 ≤ n) (hm : n ≤ 16777216) :
    Calls Try.prog 11 #[.int .u8 a, .int .i64 n] w fun e w' => e = .returned (.tuple #[.int .i64 ((8 * n + k - 1) / k), .nilIface]) ∧ w = w' := by
  have K : Hid (Bt a = k) := hk
  clear hk
  have g1 : (k == 0) = false := by simp; omega
  go_enter Try.func11, Try.ntmps11
  go_wp2_with (go_at_call 35; refine (bits_k _ _ _ K).mono ?_; rintro e w' ⟨rfl, rfl⟩)
  go_ret2
  exact ⟨rfl, rfl⟩

theorem size_no (a k n : Int) (w : World) (hk : Bt a = k) (h : k = 0 ∨ n < 0 ∨ 16777216 < n) :
    Calls Try.prog 11 #[.int .u8 a, .int .i64 n] w fun e w' => e = .returned (.tuple #[.int .i64 0, eno 2]) ∧ w = w' := by
  have K : Hid (Bt a = k) := hk
  clear hk
  by_cases g : k = 0
  · subst g
    clear h
    go_enter Try.func11, Try.ntmps11
    go_wp2_with (go_at_call 35; refine (bits_k _ _ _ K).mono ?_; rintro e w' ⟨rfl, rfl⟩)
    go_ret2
    exact ⟨rfl, rfl⟩
  · have h' := h.resolve_left g
    have g1 : (k == 0) = false := by simpa using g
    clear h
    by_cases g2 : n < 0
    · clear h' g
      go_enter Try.func11, Try.ntmps11
      go_wp2_with (go_at_call 35; refine (bits_k _ _ _ K).mono ?_; rintro e w' ⟨rfl, rfl⟩)
      go_ret2
      exact ⟨rfl, rfl⟩
    · have h2 := h'.resolve_left g2
      clear h' g
      go_enter Try.func11, Try.ntmps11
      go_wp2_with (go_at_call 35; refine (bits_k _ _ _ K).mono ?_; rintro e w' ⟨rfl, rfl⟩)
      go_ret2
      exact ⟨rfl, rfl⟩

theorem rsize_k (a k n : Int) (w : World) (hk : Bt a = k) (h0 : 4 ≤ k) (h1 : k ≤ 6) (hn : 0 ≤ n) (hm : n ≤ 100000000000000000) :
    Calls Try.prog 14 #[.int .i64 a, .int .i64 n] w fun e w' => e = .returned (.int .i64 ((8 * n + k - 1) / k)) ∧ w = w' := by
  have K : Hid (Bt a = k) := hk
  clear hk
  go_enter Try.func14, Try.ntmps14
  go_wp2_with (go_at_call 12; refine (rbits_k _ _ _ K).mono ?_; rintro e w' ⟨rfl, rfl⟩)
  go_ret
  exact ⟨rfl, rfl⟩

/-- base.Room. -/
def RoomS (k n : Int) : Int := n / 8 * k + n % 8 * k / 8
def RoomOk (k n : Int) : Bool := decide (n % 8 * k % 8 < k)

theorem room_no (a k n : Int) (w : World) (hk : Bt a = k) (h : k = 0 ∨ n < 0) :
    Calls Try.prog 15 #[.int .u8 a, .int .i64 n] w fun e w' => e = .returned (.tuple #[.int .i64 0, .bool false]) ∧ w = w' := by
  have K : Hid (Bt a = k) := hk
  clear hk
  by_cases g : k = 0
  · subst g
    clear h
    go_enter Try.func15, Try.ntmps15
    go_wp2_with (go_at_call 35; refine (bits_k _ _ _ K).mono ?_; rintro e w' ⟨rfl, rfl⟩)
    go_ret2
    exact ⟨rfl, rfl⟩
  · have h' := h.resolve_left g
    have g1 : (k == 0) = false := by simpa using g
    clear h g
    go_enter Try.func15, Try.ntmps15
    go_wp2_with (go_at_call 35; refine (bits_k _ _ _ K).mono ?_; rintro e w' ⟨rfl, rfl⟩)
    go_ret2
    exact ⟨rfl, rfl⟩

theorem room_yes (a k n : Int) (w : World) (hk : Bt a = k) (h0 : k = 4 ∨ k = 5 ∨ k = 6) (hn : 0 ≤ n) (hm : n ≤ 9223372036854775807) (hr : n % 8 * k % 8 < k) :
    Calls Try.prog 15 #[.int .u8 a, .int .i64 n] w fun e w' => e = .returned (.tuple #[.int .i64 (n / 8 * k + n % 8 * k / 8), .bool true]) ∧ w = w' := by
  have K : Hid (Bt a = k) := hk
  clear hk
  rcases h0 with rfl | rfl | rfl
  all_goals
    go_enter Try.func15, Try.ntmps15
    go_wp2_with (go_at_call 35; refine (bits_k _ _ _ K).mono ?_; rintro e w' ⟨rfl, rfl⟩)
    go_ret2
    exact ⟨rfl, rfl⟩

theorem room_off (a k n : Int) (w : World) (hk : Bt a = k) (h0 : k = 4 ∨ k = 5 ∨ k = 6) (hn : 0 ≤ n) (hm : n ≤ 9223372036854775807) (hr : k ≤ n % 8 * k % 8) :
    Calls Try.prog 15 #[.int .u8 a, .int .i64 n] w fun e w' => e = .returned (.tuple #[.int .i64 0, .bool false]) ∧ w = w' := by
  have K : Hid (Bt a = k) := hk
  clear hk
  rcases h0 with rfl | rfl | rfl
  all_goals
    go_enter Try.func15, Try.ntmps15
    go_wp2_with (go_at_call 35; refine (bits_k _ _ _ K).mono ?_; rintro e w' ⟨rfl, rfl⟩)
    go_ret2
    exact ⟨rfl, rfl⟩

/-- Where the reference's loop ends: the least j with at least r letters. -/
def jL (k r : Int) : Int := if r = 0 then 0 else k * (r - 1) / 8 + 1

/-- The reference's Room. -/
theorem rroom_no (a k n : Int) (w : World) (hk : Bt a = k) (h : k = 0 ∨ n < 0) :
    Calls Try.prog 16 #[.int .i64 a, .int .i64 n] w fun e w' => e = .returned (.int .i64 (-1)) ∧ w = w' := by
  have K : Hid (Bt a = k) := hk
  clear hk
  by_cases g : k = 0
  · subst g
    clear h
    go_enter Try.func16, Try.ntmps16
    go_wp2_with (go_at_call 12; refine (rbits_k _ _ _ K).mono ?_; rintro e w' ⟨rfl, rfl⟩)
    go_ret
    exact ⟨rfl, rfl⟩
  · have h' := h.resolve_left g
    have g1 : (k == 0) = false := by simpa using g
    clear h g
    go_enter Try.func16, Try.ntmps16
    go_wp2_with (go_at_call 12; refine (rbits_k _ _ _ K).mono ?_; rintro e w' ⟨rfl, rfl⟩)
    go_ret
    exact ⟨rfl, rfl⟩

theorem ret_int {k : IntKind} {a b : Int} (h : a = b) : Ending.returned (.int k a) = .returned (.int k b) := by rw [h]

theorem jL_spec (k n J : Int) (h0 : k = 4 ∨ k = 5 ∨ k = 6) (hn : 0 ≤ n) (hJ : J = n / 8 * k + jL k (n % 8)) :
    (∀ x, n / 8 * k ≤ x → x < J → (8 * x + k - 1) / k < n) ∧ n ≤ (8 * J + k - 1) / k ∧ 0 ≤ n / 8 * k ∧ n / 8 * k ≤ J ∧ J ≤ 8 * n + 10 ∧ ((8 * J + k - 1) / k = n ↔ n % 8 * k % 8 < k) ∧ (n % 8 * k % 8 < k → J = n / 8 * k + n % 8 * k / 8) := by
  have h8 : n % 8 = 0 ∨ n % 8 = 1 ∨ n % 8 = 2 ∨ n % 8 = 3 ∨ n % 8 = 4 ∨ n % 8 = 5 ∨ n % 8 = 6 ∨ n % 8 = 7 := by omega
  unfold jL at hJ
  rcases h0 with rfl | rfl | rfl <;> rcases h8 with h | h | h | h | h | h | h | h <;> rw [h] at hJ ⊢ <;> simp at hJ ⊢ <;> exact ⟨fun x _ _ => by omega, by omega, by omega, by omega, by omega, by omega⟩

def RmR (k n : Int) : Int := if n % 8 * k % 8 < k then n / 8 * k + n % 8 * k / 8 else -1

theorem rroom_k (a k n : Int) (w : World) (hk : Bt a = k) (h0 : k = 4 ∨ k = 5 ∨ k = 6) (hn : 0 ≤ n) (hm : n ≤ 1125899906842624) :
    Calls Try.prog 16 #[.int .i64 a, .int .i64 n] w fun e w' => e = .returned (.int .i64 (RmR k n)) ∧ w = w' := by
  have K : Hid (Bt a = k) := hk
  clear hk
  obtain ⟨J, hJ⟩ : ∃ J : Int, J = n / 8 * k + jL k (n % 8) := ⟨_, rfl⟩
  obtain ⟨hs, hge, hq0, hqJ, hJb, hiff, hval⟩ := jL_spec k n J h0 hn hJ
  have HS := Lib.hid hs
  have HI := Lib.hid hiff
  have HV := Lib.hid hval
  clear hJ hs hiff hval
  have k4 : 4 ≤ k := by omega
  have k6 : k ≤ 6 := by omega
  clear h0
  have g1 : (k == 0) = false := by simp; omega
  go_enter Try.func16, Try.ntmps16
  go_wp2_with (go_at_call 12; refine (rbits_k _ _ _ K).mono ?_; rintro e w' ⟨rfl, rfl⟩)
  go_loop [5] (fun m => ∃ x : Int, n / 8 * k ≤ x ∧ x ≤ J ∧ m = .int .i64 x) (fun m => (J - intOf m).toNat)
  case atStart => exact ⟨_, Int.le_refl _, hqJ, rfl⟩
  case round =>
    obtain ⟨x, hx0, hxJ, rfl⟩ := hrel
    by_cases hlt : x < J
    · have hS := HS.out x hx0 hlt
      go_wp2_with (go_at_call 14; refine (rsize_k _ _ _ _ K k4 k6 (by omega) (by omega)).mono ?_; rintro e w' ⟨rfl, rfl⟩)
      go_round
      case rel => exact ⟨x + 1, by omega, by omega, rfl⟩
      case measure => simp [intOf]; omega
    · obtain rfl : x = J := by omega
      by_cases he : n % 8 * k % 8 < k
      · have hv := HV.out he
        have hS : ((8 * x + k - 1) / k == n) = true := by simpa using HI.out.2 he
        have HV' := Lib.hid hv
        clear hv
        go_wp2_with (go_at_call 14; refine (rsize_k _ _ _ _ K k4 k6 (by omega) (by omega)).mono ?_; rintro e w' ⟨rfl, rfl⟩)
        go_ret
        exact ⟨ret_int (by unfold RmR; rw [if_pos he]; exact HV'.out), rfl⟩
      · have hS : ((8 * x + k - 1) / k == n) = false := by
          have := HI.out
          simp only [he, iff_false] at this
          simpa using this
        go_wp2_with (go_at_call 14; refine (rsize_k _ _ _ _ K k4 k6 (by omega) (by omega)).mono ?_; rintro e w' ⟨rfl, rfl⟩)
        go_ret
        exact ⟨ret_int (by unfold RmR; rw [if_neg (by omega)]), rfl⟩

#print axioms rroom_k
end Go.Proofs.Ytdlplmflimleaaa
