/- The contracts of (*Writer).End, base.write for bytes, Write, Hex, Web, New, (*Writer).Put. -/
import Derived.Test.YtdlplmflimleaaaBaseD
import Derived.BigQuiet
import Derived.Deep.QuietTactic
import Derived.Lib.AppendStr
namespace Go.Proofs.Ytdlplmflimleaaa
open Go.RowKit
set_option linter.unusedSimpArgs false
set_option linter.unusedVariables false

theorem ltr_cut (a : Int) (i : Nat) (h : i < (Ltr a).size) : (Ltr a).extract i (i + 1) = ⟨#[Lat a i]⟩ := by
  have hg := ltr_get a i h
  have hd : ((Ltr a).extract i (i + 1)).data = #[Lat a i] := by
    have h' : i < (Ltr a).data.size := h
    rw [ByteArray.data_extract]
    apply Array.ext
    · simp; omega
    · intro j h1 h2
      have hj : j = 0 := by simpa using h2
      subst hj
      simp
      exact hg
  cases hb : (Ltr a).extract i (i + 1) with
  | mk d => rw [hb] at hd; simp at hd; rw [hd]

/-- The last letter. -/
def endL (a : Int) (k r m : Nat) : List UInt8 := if 0 < m then [Lat a (r * 2 ^ (k - m))] else []

attribute [local go_sem ↓] Go.wp_at_zero Go.wp_at_succ

set_option maxRecDepth 100000 in
theorem end_4 (a : Int) (r m b base : Nat) (w : World) (hblk : Blk w b 72 (wcells a r m)) (hm : m < 4) (hr : r < 2 ^ m) (hk : Bt a = (4 : Nat)) :
    Calls Try.prog 25 #[.pointer (some ⟨b, 0, none⟩)] w fun e w' => e = .returned (.string ⟨(endL a 4 r m).toArray⟩) ∧ Blk w' b 72 (wcells a 0 0) ∧ But base b w w' := by
  have K : Hid (Bt a = ((4 : Nat) : Int)) := hk
  clear hk
  have c0 := hblk.cell 0
  have c1 := hblk.cell 1
  have c2 := hblk.cell 2
  have f1 := hblk.frozen 1
  have f2 := hblk.frozen 2
  simp at c0 c1 c2
  have HBLK := Lib.hid hblk
  clear hblk
  by_cases h0 : 0 < m
  · have hE : endL a 4 r m = [Lat a (r * 2 ^ (4 - m))] := if_pos h0
    have hx : r * 2 ^ (4 - m) < 2 ^ 4 := by
      have e : 2 ^ 4 = 2 ^ m * 2 ^ (4 - m) := by rw [← Nat.pow_add]; congr 1; omega
      rw [e]; exact (Nat.mul_lt_mul_right (Nat.two_pow_pos _)).2 hr
    have hsl : (r : Int) * 2 ^ (4 - m) % 4294967296 = ((r * 2 ^ (4 - m) : Nat) : Int) := by
      rw [Int.natCast_mul, Int.natCast_pow]
      have e : ((r * 2 ^ (4 - m) : Nat) : Int) = (r : Int) * 2 ^ (4 - m) := by rw [Int.natCast_mul, Int.natCast_pow]; rfl
      have := (Int.ofNat_lt.2 hx)
      show (r : Int) * 2 ^ (4 - m) % 4294967296 = (r : Int) * 2 ^ (4 - m)
      rw [← e]
      omega
    generalize r * 2 ^ (4 - m) = x0 at *
    have hsz : (Ltr a).size = 2 ^ 4 := ltr_size a 4 K (by omega)
    have hcut := ltr_cut a x0 (by omega)
    have hx1 : (x0 : Int) + 1 ≤ ((Ltr a).size : Int) := by omega
    have hx2 : x0 < 64 := Nat.lt_of_lt_of_le hx (by decide)
    have HE := Lib.hid hE
    clear hE hsz hx
    go_enter Try.func25, Try.ntmps25
    go_wp2_with (first
      | (go_at_call 35; refine (bits_k _ _ _ K).mono ?_; rintro e w' ⟨rfl, rfl⟩)
      | (go_at_call 40; refine (letters_any _ _).mono ?_; rintro e w' ⟨rfl, rfl⟩))
    go_quiet (fail)
    go_wp2_with (first
      | (go_at_call 40; refine (letters_any _ _).mono ?_; rintro e w' ⟨rfl, rfl⟩))
    go_ret
    refine ⟨by rw [HE.out]; rfl, ?_, (((But.refl base b w).drewN nq).setCell (p := ⟨b, 1, none⟩) (.inl rfl) _).setCell (p := ⟨b, 2, none⟩) (.inl rfl) _⟩
    have := ((HBLK.out.drewN nq).set1 1 (.int .u32 ((0 : Nat) : Int))).set1 2 (.int .i64 ((0 : Nat) : Int))
    rw [wcells_set1, wcells_set2] at this
    exact this
  · obtain rfl : m = 0 := by omega
    have hE : endL a 4 r 0 = [] := if_neg (by omega)
    have HE := Lib.hid hE
    clear hE
    go_enter Try.func25, Try.ntmps25
    go_wp2_with (first
      | (go_at_call 35; refine (bits_k _ _ _ K).mono ?_; rintro e w' ⟨rfl, rfl⟩))
    go_ret
    refine ⟨by rw [HE.out]; rfl, ?_, ((But.refl base b w).setCell (p := ⟨b, 1, none⟩) (.inl rfl) _).setCell (p := ⟨b, 2, none⟩) (.inl rfl) _⟩
    have := (HBLK.out.set1 1 (.int .u32 ((0 : Nat) : Int))).set1 2 (.int .i64 ((0 : Nat) : Int))
    rw [wcells_set1, wcells_set2] at this
    exact this
set_option maxRecDepth 100000 in
theorem end_5 (a : Int) (r m b base : Nat) (w : World) (hblk : Blk w b 72 (wcells a r m)) (hm : m < 5) (hr : r < 2 ^ m) (hk : Bt a = (5 : Nat)) :
    Calls Try.prog 25 #[.pointer (some ⟨b, 0, none⟩)] w fun e w' => e = .returned (.string ⟨(endL a 5 r m).toArray⟩) ∧ Blk w' b 72 (wcells a 0 0) ∧ But base b w w' := by
  have K : Hid (Bt a = ((5 : Nat) : Int)) := hk
  clear hk
  have c0 := hblk.cell 0
  have c1 := hblk.cell 1
  have c2 := hblk.cell 2
  have f1 := hblk.frozen 1
  have f2 := hblk.frozen 2
  simp at c0 c1 c2
  have HBLK := Lib.hid hblk
  clear hblk
  by_cases h0 : 0 < m
  · have hE : endL a 5 r m = [Lat a (r * 2 ^ (5 - m))] := if_pos h0
    have hx : r * 2 ^ (5 - m) < 2 ^ 5 := by
      have e : 2 ^ 5 = 2 ^ m * 2 ^ (5 - m) := by rw [← Nat.pow_add]; congr 1; omega
      rw [e]; exact (Nat.mul_lt_mul_right (Nat.two_pow_pos _)).2 hr
    have hsl : (r : Int) * 2 ^ (5 - m) % 4294967296 = ((r * 2 ^ (5 - m) : Nat) : Int) := by
      rw [Int.natCast_mul, Int.natCast_pow]
      have e : ((r * 2 ^ (5 - m) : Nat) : Int) = (r : Int) * 2 ^ (5 - m) := by rw [Int.natCast_mul, Int.natCast_pow]; rfl
      have := (Int.ofNat_lt.2 hx)
      show (r : Int) * 2 ^ (5 - m) % 4294967296 = (r : Int) * 2 ^ (5 - m)
      rw [← e]
      omega
    generalize r * 2 ^ (5 - m) = x0 at *
    have hsz : (Ltr a).size = 2 ^ 5 := ltr_size a 5 K (by omega)
    have hcut := ltr_cut a x0 (by omega)
    have hx1 : (x0 : Int) + 1 ≤ ((Ltr a).size : Int) := by omega
    have hx2 : x0 < 64 := Nat.lt_of_lt_of_le hx (by decide)
    have HE := Lib.hid hE
    clear hE hsz hx
    go_enter Try.func25, Try.ntmps25
    go_wp2_with (first
      | (go_at_call 35; refine (bits_k _ _ _ K).mono ?_; rintro e w' ⟨rfl, rfl⟩)
      | (go_at_call 40; refine (letters_any _ _).mono ?_; rintro e w' ⟨rfl, rfl⟩))
    go_quiet (fail)
    go_wp2_with (first
      | (go_at_call 40; refine (letters_any _ _).mono ?_; rintro e w' ⟨rfl, rfl⟩))
    go_ret
    refine ⟨by rw [HE.out]; rfl, ?_, (((But.refl base b w).drewN nq).setCell (p := ⟨b, 1, none⟩) (.inl rfl) _).setCell (p := ⟨b, 2, none⟩) (.inl rfl) _⟩
    have := ((HBLK.out.drewN nq).set1 1 (.int .u32 ((0 : Nat) : Int))).set1 2 (.int .i64 ((0 : Nat) : Int))
    rw [wcells_set1, wcells_set2] at this
    exact this
  · obtain rfl : m = 0 := by omega
    have hE : endL a 5 r 0 = [] := if_neg (by omega)
    have HE := Lib.hid hE
    clear hE
    go_enter Try.func25, Try.ntmps25
    go_wp2_with (first
      | (go_at_call 35; refine (bits_k _ _ _ K).mono ?_; rintro e w' ⟨rfl, rfl⟩))
    go_ret
    refine ⟨by rw [HE.out]; rfl, ?_, ((But.refl base b w).setCell (p := ⟨b, 1, none⟩) (.inl rfl) _).setCell (p := ⟨b, 2, none⟩) (.inl rfl) _⟩
    have := (HBLK.out.set1 1 (.int .u32 ((0 : Nat) : Int))).set1 2 (.int .i64 ((0 : Nat) : Int))
    rw [wcells_set1, wcells_set2] at this
    exact this
set_option maxRecDepth 100000 in
theorem end_6 (a : Int) (r m b base : Nat) (w : World) (hblk : Blk w b 72 (wcells a r m)) (hm : m < 6) (hr : r < 2 ^ m) (hk : Bt a = (6 : Nat)) :
    Calls Try.prog 25 #[.pointer (some ⟨b, 0, none⟩)] w fun e w' => e = .returned (.string ⟨(endL a 6 r m).toArray⟩) ∧ Blk w' b 72 (wcells a 0 0) ∧ But base b w w' := by
  have K : Hid (Bt a = ((6 : Nat) : Int)) := hk
  clear hk
  have c0 := hblk.cell 0
  have c1 := hblk.cell 1
  have c2 := hblk.cell 2
  have f1 := hblk.frozen 1
  have f2 := hblk.frozen 2
  simp at c0 c1 c2
  have HBLK := Lib.hid hblk
  clear hblk
  by_cases h0 : 0 < m
  · have hE : endL a 6 r m = [Lat a (r * 2 ^ (6 - m))] := if_pos h0
    have hx : r * 2 ^ (6 - m) < 2 ^ 6 := by
      have e : 2 ^ 6 = 2 ^ m * 2 ^ (6 - m) := by rw [← Nat.pow_add]; congr 1; omega
      rw [e]; exact (Nat.mul_lt_mul_right (Nat.two_pow_pos _)).2 hr
    have hsl : (r : Int) * 2 ^ (6 - m) % 4294967296 = ((r * 2 ^ (6 - m) : Nat) : Int) := by
      rw [Int.natCast_mul, Int.natCast_pow]
      have e : ((r * 2 ^ (6 - m) : Nat) : Int) = (r : Int) * 2 ^ (6 - m) := by rw [Int.natCast_mul, Int.natCast_pow]; rfl
      have := (Int.ofNat_lt.2 hx)
      show (r : Int) * 2 ^ (6 - m) % 4294967296 = (r : Int) * 2 ^ (6 - m)
      rw [← e]
      omega
    generalize r * 2 ^ (6 - m) = x0 at *
    have hsz : (Ltr a).size = 2 ^ 6 := ltr_size a 6 K (by omega)
    have hcut := ltr_cut a x0 (by omega)
    have hx1 : (x0 : Int) + 1 ≤ ((Ltr a).size : Int) := by omega
    have hx2 : x0 < 64 := Nat.lt_of_lt_of_le hx (by decide)
    have HE := Lib.hid hE
    clear hE hsz hx
    go_enter Try.func25, Try.ntmps25
    go_wp2_with (first
      | (go_at_call 35; refine (bits_k _ _ _ K).mono ?_; rintro e w' ⟨rfl, rfl⟩)
      | (go_at_call 40; refine (letters_any _ _).mono ?_; rintro e w' ⟨rfl, rfl⟩))
    go_quiet (fail)
    go_wp2_with (first
      | (go_at_call 40; refine (letters_any _ _).mono ?_; rintro e w' ⟨rfl, rfl⟩))
    go_ret
    refine ⟨by rw [HE.out]; rfl, ?_, (((But.refl base b w).drewN nq).setCell (p := ⟨b, 1, none⟩) (.inl rfl) _).setCell (p := ⟨b, 2, none⟩) (.inl rfl) _⟩
    have := ((HBLK.out.drewN nq).set1 1 (.int .u32 ((0 : Nat) : Int))).set1 2 (.int .i64 ((0 : Nat) : Int))
    rw [wcells_set1, wcells_set2] at this
    exact this
  · obtain rfl : m = 0 := by omega
    have hE : endL a 6 r 0 = [] := if_neg (by omega)
    have HE := Lib.hid hE
    clear hE
    go_enter Try.func25, Try.ntmps25
    go_wp2_with (first
      | (go_at_call 35; refine (bits_k _ _ _ K).mono ?_; rintro e w' ⟨rfl, rfl⟩))
    go_ret
    refine ⟨by rw [HE.out]; rfl, ?_, ((But.refl base b w).setCell (p := ⟨b, 1, none⟩) (.inl rfl) _).setCell (p := ⟨b, 2, none⟩) (.inl rfl) _⟩
    have := (HBLK.out.set1 1 (.int .u32 ((0 : Nat) : Int))).set1 2 (.int .i64 ((0 : Nat) : Int))
    rw [wcells_set1, wcells_set2] at this
    exact this

theorem end_k (a : Int) (k r m b base : Nat) (w : World) (hblk : Blk w b 72 (wcells a r m)) (hm : m < k) (hr : r < 2 ^ m) (hk : Bt a = k) (h0 : k = 4 ∨ k = 5 ∨ k = 6) :
    Calls Try.prog 25 #[.pointer (some ⟨b, 0, none⟩)] w fun e w' => e = .returned (.string ⟨(endL a k r m).toArray⟩) ∧ Blk w' b 72 (wcells a 0 0) ∧ But base b w w' := by
  rcases h0 with rfl | rfl | rfl
  · exact end_4 a r m b base w hblk hm hr hk
  · exact end_5 a r m b base w hblk hm hr hk
  · exact end_6 a r m b base w hblk hm hr hk

theorem lets_eq (a : Int) (k : Nat) (hk : 0 < k) (bs : List UInt8) : lets a k bs = (wE k 0 0 bs).map (Lat a) ++ endL a k (wR k 0 0 bs) (wM k 0 bs) := by
  unfold lets endL
  rw [wE_all k hk, List.map_append]
  congr 1
  split <;> simp
theorem endL_length (a : Int) (k r m : Nat) : (endL a k r m).length ≤ 1 := by unfold endL; split <;> simp

theorem info_u8' : ∃ i, Try.prog.info? 5 = some i ∧ i.zero = some (.int .u8 0) ∧ i.size = 1 ∧ i.bytes = 1 := info_parts info_u8

set_option maxRecDepth 100000 in
/-- base.write, for bytes. -/
theorem write_k (a : Int) (k : Nat) (A : Option Addr) (n c B : Nat) (bs : List UInt8) (w : World) (h : RB w B A n bs) (hB : B ≤ w.heap.size) (hk : Bt a = k) (h0 : k = 4 ∨ k = 5 ∨ k = 6) (hn : n ≤ 1000000000) :
    Calls Try.prog 36 #[.int .u8 a, .slice A n c] w fun e w' => e = .returned (.string ⟨(lets a k bs).toArray⟩) ∧ Below w.heap.size w w' := by
  have hl := h.1
  subst hl
  have K : Hid (Bt a = (k : Int)) := hk
  have HR := Lib.hid h
  have hls := lets_eq a k (by omega) bs
  have HLS := Lib.hid hls
  have hwl := wE_length k 0 0 bs
  have HWL := Lib.hid hwl
  have hml := wM_lt k 0 bs (by omega)
  have hrl := wR_lt k 0 0 bs
  have hwt : wT 0 bs / k ≤ 8 * bs.length := by unfold wT; exact Nat.le_trans (Nat.div_le_self _ _) (by omega)
  have HEL := Lib.hid (endL_length a k (wR k 0 0 bs) (wM k 0 bs))
  have HM := Lib.hid hml
  have HRL := Lib.hid hrl
  have HK := Lib.hid h0
  have hk4 : 4 ≤ k := by omega
  have hk6 : k ≤ 6 := by omega
  obtain ⟨i, hi, hz, hsize, hby⟩ := info_u8'
  clear h hk hls hwl hml hrl h0
  have HI := Lib.hid hi
  have HZ := Lib.hid hz
  have HSI := Lib.hid hsize
  have HBY := Lib.hid hby
  clear hi hz hsize hby
  have hq0 : bs.length * 8 / k ≤ 8000000000 := Nat.le_trans (Nat.div_le_self _ _) (by omega)
  have hqq : (bs.length : Int) * 8 / (k : Int) = ((bs.length * 8 / k : Nat) : Int) := by simp
  generalize bs.length * 8 / k = q at *
  go_enter Try.func36, Try.ntmps36
  go_wp2_with (first
      | (go_at_call 35; refine (bits_k _ _ _ K).mono ?_; rintro e w' ⟨rfl, rfl⟩)
      | (at_make; refine wpList_make_own _ rfl (.const (.int .i64 0)) (.tmp 17) 34 rfl (w.heap.size + 1) 5 i (.int .u8 0) 1 Try.underlying34 HI.out HZ.out HSI.out .i64 .i64 _ (q + 1) rfl rfl (by omega) (by rw [HBY.out]; omega) (by unfold maxLen; omega) (by simp) ?_; intro w1 hown1 hg1))
  have hblk1 : Blk w1 w.heap.size 72 (wcells a 0 0) := (Blk.new w 72 (wcells a 0 0)).grown hg1 (by simp)
  have hb1 : Below w.heap.size w w1 := ((Below.refl _ _).alloc (Nat.le_refl _) _).grown hg1 (by simp) (fun k' hk' => by cases hk')
  have hs1 : w.heap.size + 1 ≤ w1.heap.size := by have := hg1.size; simpa using this
  refine (put_k a k 0 0 w.heap.size (w.heap.size + 1) A bs.length c B bs _ 0 [] w1 (HR.out.below (hb1.mono hB)) ?_ (by omega) (by omega) hs1 hblk1 (by omega) (by omega) (by simpa using hown1) K HK.out hn (by omega)).mono ?_
  · intro g o hA hn0
    have := HR.out.lt g o hA hn0
    omega
  rintro e w2 ⟨v, rfl, hown2, hblk2, hbut2⟩
  simp only [Nat.zero_add, List.nil_append] at hown2
  obtain ⟨A2, c2, rfl, _⟩ := own_shape hown2
  have hs2 := hbut2.size
  go_wp2_with fail
  refine (end_k a k (wR k 0 0 bs) (wM k 0 bs) w.heap.size w2.heap.size w2 hblk2 HM.out HRL.out K HK.out).mono ?_
  rintro e w3 ⟨rfl, hblk3, hbut3⟩
  have hs3 := hbut3.size
  have hown3 := own_but hown2 hbut3 (own_apart hown2 hblk2 (by decide))
  have hbel3 : Below w.heap.size w w3 := (hb1.trans ((hbut2.mono (by omega)).toBelow (Nat.le_refl _))).trans ((hbut3.mono (by omega)).toBelow (Nat.le_refl _))
  have hel := HEL.out
  have hfin : (wE k 0 0 bs).map (Lat a) ++ endL a k (wR k 0 0 bs) (wM k 0 bs) = lets a k bs := HLS.out.symm
  have HF := Lib.hid hfin
  clear hfin
  go_wp2_with (at_builtin; refine wpList_pushstr rfl (.tmp 21) (.tmp 23) rfl (w.heap.size + 1) _ _ _ rfl hown3 _ rfl (by omega) (by omega) ?_; intro A4 c4 w4 hown4 hg4 ks; rw [HF.out] at ks)
  go_ret
  exact ⟨rfl, hbel3.grown hg4 hbel3.size (fun k' hk' => by have := (hown3.lt k' hk').1; omega)⟩
end Go.Proofs.Ytdlplmflimleaaa
