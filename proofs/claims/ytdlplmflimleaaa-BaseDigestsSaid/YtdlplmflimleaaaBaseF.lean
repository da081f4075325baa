/- The contracts of base.Write, Hex, Web, New, (*Writer).Put, and of the laws' helpers. -/
import Derived.Test.YtdlplmflimleaaaBaseE
namespace Go.Proofs.Ytdlplmflimleaaa
open Go.RowKit
set_option linter.unusedSimpArgs false
set_option linter.unusedVariables false

theorem Write_ok (a : Int) (k : Nat) (A : Option Addr) (n c B : Nat) (bs : List UInt8) (w : World) (h : RB w B A n bs) (hB : B ≤ w.heap.size) (hk : Bt a = k) (h0 : k = 4 ∨ k = 5 ∨ k = 6) (hn : n ≤ 1000000000) :
    Calls Try.prog 18 #[.int .u8 a, .slice A n c] w fun e w' => e = .returned (.tuple #[.string ⟨(lets a k bs).toArray⟩, .nilIface]) ∧ Below w.heap.size w w' := by
  have K : Hid (Bt a = (k : Int)) := hk
  have HW := Lib.hid (write_k a k A n c B bs w h hB hk h0 hn)
  have hk4 : 4 ≤ k := by omega
  have hkz : ((k : Int) == 0) = false := by simp; omega
  clear h hk h0
  go_enter Try.func18, Try.ntmps18
  go_wp2_with (first
      | (go_at_call 35; refine (bits_k _ _ _ K).mono ?_; rintro e w' ⟨rfl, rfl⟩)
      | (go_at_call 36; refine HW.out.mono ?_; rintro e w' ⟨rfl, hb⟩))
  go_ret2
  exact ⟨rfl, hb⟩

theorem Write_no (a : Int) (v : Value) (w : World) (hk : Bt a = 0) :
    Calls Try.prog 18 #[.int .u8 a, v] w fun e w' => e = .returned (.tuple #[.string ⟨#[]⟩, eno 2]) ∧ w = w' := by
  have K : Hid (Bt a = 0) := hk
  clear hk
  go_enter Try.func18, Try.ntmps18
  go_wp2_with (first
      | (go_at_call 35; refine (bits_k _ _ _ K).mono ?_; rintro e w' ⟨rfl, rfl⟩))
  go_ret2
  exact ⟨rfl, rfl⟩

theorem hex_any (A : Option Addr) (n c B : Nat) (bs : List UInt8) (w : World) (h : RB w B A n bs) (hB : B ≤ w.heap.size) (hn : n ≤ 1000000000) :
    Calls Try.prog 26 #[.slice A n c] w fun e w' => e = .returned (.string ⟨(lets 1 4 bs).toArray⟩) ∧ Below w.heap.size w w' := by
  have HW := Lib.hid (write_k 1 4 A n c B bs w h hB rfl (.inl rfl) hn)
  clear h
  go_enter Try.func26, Try.ntmps26
  go_wp2_with (go_at_call 36; refine HW.out.mono ?_; rintro e w' ⟨rfl, hb⟩)
  go_ret
  exact ⟨rfl, hb⟩

theorem web_any (A : Option Addr) (n c B : Nat) (bs : List UInt8) (w : World) (h : RB w B A n bs) (hB : B ≤ w.heap.size) (hn : n ≤ 1000000000) :
    Calls Try.prog 27 #[.slice A n c] w fun e w' => e = .returned (.string ⟨(lets 3 6 bs).toArray⟩) ∧ Below w.heap.size w w' := by
  have HW := Lib.hid (write_k 3 6 A n c B bs w h hB rfl (.inr (.inr rfl)) hn)
  clear h
  go_enter Try.func27, Try.ntmps27
  go_wp2_with (go_at_call 36; refine HW.out.mono ?_; rintro e w' ⟨rfl, hb⟩)
  go_ret
  exact ⟨rfl, hb⟩

theorem new_ok (a k : Int) (w : World) (hk : Bt a = k) (h0 : k = 4 ∨ k = 5 ∨ k = 6) :
    Calls Try.prog 20 #[.int .u8 a] w fun e w' => e = .returned (.tuple #[.pointer (some ⟨w.heap.size, 0, none⟩), .nilIface]) ∧ Blk w' w.heap.size 72 (wcells a 0 0) ∧ Below w.heap.size w w' := by
  have K : Hid (Bt a = k) := hk
  have hkz : (k == 0) = false := by simp; omega
  clear hk h0
  go_enter Try.func20, Try.ntmps20
  go_wp2_with (first
      | (go_at_call 35; refine (bits_k _ _ _ K).mono ?_; rintro e w' ⟨rfl, rfl⟩))
  go_ret2
  exact ⟨rfl, Blk.new w _ _, by go_grown⟩

theorem new_no (a : Int) (w : World) (hk : Bt a = 0) :
    Calls Try.prog 20 #[.int .u8 a] w fun e w' => e = .returned (.tuple #[.pointer none, eno 2]) ∧ w = w' := by
  have K : Hid (Bt a = 0) := hk
  clear hk
  go_enter Try.func20, Try.ntmps20
  go_wp2_with (first
      | (go_at_call 35; refine (bits_k _ _ _ K).mono ?_; rintro e w' ⟨rfl, rfl⟩))
  go_ret2
  exact ⟨rfl, rfl⟩

theorem Put_nil (v : Value) (w : World) :
    Calls Try.prog 22 #[.pointer none, v] w fun e w' => e = .returned (.string ⟨#[]⟩) ∧ w = w' := by
  go_enter Try.func22, Try.ntmps22
  go_wp2
  go_ret
  exact ⟨rfl, rfl⟩

theorem End_nil (w : World) :
    Calls Try.prog 25 #[.pointer none] w fun e w' => e = .returned (.string ⟨#[]⟩) ∧ w = w' := by
  go_enter Try.func25, Try.ntmps25
  go_wp2
  go_ret
  exact ⟨rfl, rfl⟩

/-- (*Writer).Put. -/
theorem Put_k (a : Int) (k r m b : Nat) (A : Option Addr) (n c B : Nat) (bs : List UInt8) (w : World)
    (h : RB w B A n bs) (hne : ∀ g o, A = some ⟨g, o, none⟩ → 0 < n → g ≠ b) (hB : B ≤ w.heap.size)
    (hblk : Blk w b 72 (wcells a r m)) (hm : m < k) (hr : r < 2 ^ m)
    (hk : Bt a = k) (h0 : k = 4 ∨ k = 5 ∨ k = 6) (hn : n ≤ 1000000000) :
    Calls Try.prog 22 #[.pointer (some ⟨b, 0, none⟩), .slice A n c] w fun e w' =>
      e = .returned (.string ⟨((wE k r m bs).map (Lat a)).toArray⟩) ∧ Blk w' b 72 (wcells a (wR k r m bs) (wM k m bs)) ∧ But w.heap.size b w w' := by
  have HP := Lib.hid (put_k a k r m b w.heap.size A n c B bs (.slice none 0 0) 0 [] w h hne hB hblk.lt (Nat.le_refl _) hblk hm hr (World.ownsRow_nil w _ _ _) hk h0 hn (by omega))
  clear h hne hblk hm hr hk h0
  go_enter Try.func22, Try.ntmps22
  go_wp2_with fail
  refine HP.out.mono ?_
  rintro e w2 ⟨v, rfl, hown2, hblk2, hbut2⟩
  simp only [Nat.zero_add, List.nil_append] at hown2
  obtain ⟨A2, c2, rfl, _⟩ := own_shape hown2
  have ks := str_of_RB (RB.of_own hown2) c2
  have H1 := Lib.hid hblk2
  have H2 := Lib.hid hbut2
  clear hown2 hblk2 hbut2 HP
  go_wp2
  go_ret
  exact ⟨rfl, H1.out, H2.out⟩

theorem beyond_any (n : Nat) (w : World) (hn : n ≤ 9223372036854775807) :
    Calls Try.prog 17 #[.int .i64 n] w fun e w' => e = .returned (.bool (decide (134217728 < n))) ∧ w = w' := by
  go_enter Try.func17, Try.ntmps17
  go_wp2
  go_ret
  exact ⟨by simp; omega, rfl⟩

/-- Are two rows of bytes the same? -/
theorem same_any (A1 A2 : Option Addr) (n1 n2 c1 c2 B1 B2 : Nat) (b1 b2 : List UInt8) (w : World) (h1 : RB w B1 A1 n1 b1) (h2 : RB w B2 A2 n2 b2) :
    Calls Try.prog 32 #[.slice A1 n1 c1, .slice A2 n2 c2] w fun e w' => e = .returned (.bool (b1 == b2)) ∧ w = w' := by
  have k1 := str_of_RB h1 c1
  have k2 := str_of_RB h2 c2
  clear h1 h2
  go_enter Try.func32, Try.ntmps32
  go_wp2
  go_ret
  exact ⟨rfl, rfl⟩

theorem roomy_cells (bs : List UInt8) (n : Nat) (h : bs.length = n) : (((bs.map bv ++ (zrow (n + 2)).drop n).toArray.setIfInBounds n (.int .u8 7)).setIfInBounds (n + 1) (.int .u8 8)) = ((bs ++ [7, 8]).map bv).toArray := by
  subst h
  have e : (zrow (bs.length + 2)).drop bs.length = [bv 0, bv 0] := by
    unfold zrow
    rw [List.drop_replicate, show bs.length + 2 - bs.length = 2 by omega]; rfl
  rw [e]
  simp
theorem roomy_cell (w : World) (g : Nat) (bs : List UInt8) (n : Nat) (h : bs.length = n) (hb : Blk w g 5 (bs.map bv ++ (zrow (n + 2)).drop n).toArray) :
    w.cell? ⟨g, n, none⟩ = some (bv 0) ∧ w.cell? ⟨g, n + 1, none⟩ = some (bv 0) := by
  subst h
  have e : (zrow (bs.length + 2)).drop bs.length = [bv 0, bv 0] := by
    unfold zrow
    rw [List.drop_replicate, show bs.length + 2 - bs.length = 2 by omega]; rfl
  rw [e] at hb
  rw [hb.cell, hb.cell]
  simp [List.getElem_append_right]

set_option maxRecDepth 100000 in
/-- A copy of bytes, with room behind them in which two marks stand. -/
theorem roomy_any (A : Option Addr) (n c B : Nat) (bs : List UInt8) (w : World) (h : RB w B A n bs) (hB : B ≤ w.heap.size) (hn : n ≤ 140737488355320) :
    Calls Try.prog 21 #[.slice A n c] w fun e w' =>
      e = .returned (.slice (some ⟨w.heap.size, 0, none⟩) n (n + 2)) ∧ Blk w' w.heap.size 5 ((bs ++ [7, 8]).map bv).toArray ∧ Below w.heap.size w w' := by
  have hmk := fun W => make_bytes n (n + 2) (by omega) (by omega) W
  have hl := h.1
  have HR := Lib.hid h
  clear h
  have e2 : ((n + 2 : Nat) : Int) = (n : Int) + 2 := by omega
  rw [e2] at hmk
  clear e2
  have HL := Lib.hid hl
  clear hl
  have hnn : (n : Int) + 2 ≤ 140737488355322 := by omega
  go_enter Try.func21, Try.ntmps21
  go_wp2_with ((with_reducible refine wpList_copyin (o := ⟨some 13, _, _, _, _, _⟩) rfl (.tmp 11) (.tmp 12) rfl w.heap.size n _ _ A rfl rfl B bs (HR.out.below (((Below.refl _ _).alloc (Nat.le_refl _) _).mono hB)) (zrow (n + 2)) (Blk.new w _ _) (by rw [zrow_length]; omega) w.heap.size w ((Below.refl _ _).alloc (Nat.le_refl _) _) (Nat.le_refl _) ?_); intro w1 hb1 hbel1; obtain ⟨cn, cn1⟩ := roomy_cell w1 w.heap.size bs n HL.out hb1.out; have fn := hb1.out.frozen n; have fn1 := hb1.out.frozen (n + 1); have hs1 := hbel1.size)
  go_ret
  refine ⟨rfl, ?_, (hbel1.setCell (p := ⟨w.heap.size, n, none⟩) (Nat.le_refl _) _).setCell (p := ⟨w.heap.size, n + 1, none⟩) (Nat.le_refl _) _⟩
  have := (hb1.out.set1 n (.int .u8 7)).set1 (n + 1) (.int .u8 8)
  rw [roomy_cells bs n HL.out] at this
  exact this

/-- What a roomy copy holds. -/
theorem roomy_holds {w : World} {g n : Nat} {bs : List UInt8} (hb : Blk w g 5 ((bs ++ [7, 8]).map bv).toArray) (h : bs.length = n) :
    RB w (g + 1) (some ⟨g, 0, none⟩) n bs ∧ w.cell? ⟨g, n, none⟩ = some (.int .u8 7) ∧ w.cell? ⟨g, n + 1, none⟩ = some (.int .u8 8) := by
  subst h
  refine ⟨⟨rfl, fun hn => ⟨g, 0, rfl, by omega, fun j hj => ?_⟩⟩, ?_, ?_⟩
  · rw [hb.cell, Nat.zero_add]
    simp only [List.getElem?_toArray, List.map_append]
    rw [List.getElem?_append_left (by simpa using hj)]
    simp [hj]
  · rw [hb.cell]; simp
  · rw [hb.cell]; simp [List.getElem?_append_right]

theorem left_yes (g n c : Nat) (A2 : Option Addr) (n2 c2 B1 B2 : Nat) (bs : List UInt8) (w : World) (h1 : RB w B1 (some ⟨g, 0, none⟩) n bs) (cn : w.cell? ⟨g, n, none⟩ = some (.int .u8 7)) (cn1 : w.cell? ⟨g, n + 1, none⟩ = some (.int .u8 8))
    (h2 : RB w B2 A2 n2 bs) (hn : n ≤ 1000000000) :
    Calls Try.prog 23 #[.slice (some ⟨g, 0, none⟩) n (n + 2), .slice A2 n2 c2] w fun e w' => e = .returned (.bool true) ∧ w = w' := by
  have HS := Lib.hid (fun c1 => same_any (some ⟨g, 0, none⟩) A2 n n2 c1 c2 B1 B2 bs bs w h1 h2)
  have hbb : (bs == bs) = true := by simp
  clear h1 h2
  go_enter Try.func23, Try.ntmps23
  go_wp2_with (go_at_call 32; refine (HS.out _).mono ?_; rintro e w' ⟨rfl, rfl⟩)
  go_ret
  exact ⟨rfl, rfl⟩

/-- base.Write, whatever the alphabet. -/
def WritePost (a : Int) (bs : List UInt8) (w : World) (e : Ending) (w' : World) : Prop :=
  ∃ s er, e = .returned (.tuple #[.string s, er]) ∧ Below w.heap.size w w' ∧ (∀ k : Nat, Bt a = k → (k = 4 ∨ k = 5 ∨ k = 6) → s = ⟨(lets a k bs).toArray⟩ ∧ er = .nilIface) ∧ (Bt a = 0 → s = ⟨#[]⟩ ∧ er = eno 2)
theorem Write_any (a : Int) (A : Option Addr) (n c B : Nat) (bs : List UInt8) (w : World) (h : RB w B A n bs) (hB : B ≤ w.heap.size) (hn : n ≤ 1000000000) :
    Calls Try.prog 18 #[.int .u8 a, .slice A n c] w (WritePost a bs w) := by
  by_cases hz : Bt a = 0
  · refine (Write_no a _ w hz).mono ?_
    rintro e w' ⟨rfl, rfl⟩
    exact ⟨_, _, rfl, Below.refl _ _, fun k hk h0 => by omega, fun _ => ⟨rfl, rfl⟩⟩
  · obtain ⟨k, hk, h0⟩ : ∃ k : Nat, Bt a = k ∧ (k = 4 ∨ k = 5 ∨ k = 6) := by
      rcases Bt_cases a with ⟨_, h⟩ | ⟨_, h⟩ | ⟨_, h⟩ | ⟨_, _, _, h, _⟩
      · exact ⟨4, h, .inl rfl⟩
      · exact ⟨5, h, .inr (.inl rfl)⟩
      · exact ⟨6, h, .inr (.inr rfl)⟩
      · exact absurd h hz
    refine (Write_ok a k A n c B bs w h hB hk h0 hn).mono ?_
    rintro e w' ⟨rfl, hb⟩
    refine ⟨_, _, rfl, hb, fun k' hk' _ => ?_, fun h => absurd h hz⟩
    have : k' = k := by omega
    subst this
    exact ⟨rfl, rfl⟩
end Go.Proofs.Ytdlplmflimleaaa
