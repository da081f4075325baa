/- BaseDigests: the walk. -/
import Derived.Test.YtdlplmflimleaaaBaseH
import Derived.Test.YtdlplmflimleaaaBaseV
import Derived.Test.YtdlplmflimleaaaBaseW
import Derived.Test.YtdlplmflimleaaaSure
import Derived.Test.YtdlplmflimleaaaCalm
import Derived.Test.YtdlplmflimleaaaStay
import Derived.Stop.BytesEq
namespace Go.Proofs.Ytdlplmflimleaaa.baseDigests
open Go.RowKit
set_option linter.unusedSimpArgs false
set_option linter.unusedVariables false
attribute [-go_sem] loadCellsFrom
attribute [local go_sem] SGives_value SGives_skip SGives_enter CGives_value CGives_skip CGives_enter

theorem rd_len (a : Int) (k : Nat) (h0 : k = 4 ∨ k = 5 ∨ k = 6) (s : List UInt8) : (rd a k s).1.length ≤ s.length := by
  unfold rd
  split
  · simp
  split
  · simp
  split
  · simp
  · simp only [List.length_map, rE, digs_length]
    rcases h0 with rfl | rfl | rfl <;> omega
theorem load_blk {W : World} {g : Nat} {t : TypeId} {C : Array Value} (h : Blk W g t C) (hC : C.size = 32) : (loadCellsFrom ⟨g, 0, none⟩ 0 32 #[]).run Try.prog W = .ok C W :=
  load_row W g C 32 hC (fun j v hv => by rw [h.cell j]; exact hv)
theorem store_new (W : World) (Z C : Array Value) (hZ : Z.size = 32) (hC : C.size = 32) (h1 : C.all (·.oneCell') = true) :
    (storeCells ⟨W.heap.size, 0, none⟩ C.toList 0).run Try.prog (W.alloc (.cells Z 62)) = .ok () (W.alloc (.cells C 62)) :=
  run_storeCells_new W 62 Z C (by rw [hC]; exact info62) (by omega) h1
theorem eq_bytes (xs : List UInt8) (h : xs.length = 32) (W : World) : (Op.equalIn 10000 62 (.agg (xs.map bv).toArray) (.agg (xs.map bv).toArray)).run Try.prog W = .ok true W := by
  have := run_equalIn_bytes (P := Try.prog) W 9998 62 5 32 Try.underlying62 Try.underlying5 (fun w => by kernel_rfl) xs xs h h
  rw [show (xs == xs) = true by simp] at this
  exact this
theorem zeros_eq (W : World) : (Op.equalIn 10000 62 (.agg zeros32) (.agg zeros32)).run Try.prog W = .ok true W := eq_bytes (List.replicate 32 0) rfl W
set_option maxRecDepth 100000 in
set_option maxHeartbeats 4000000 in
theorem walk (bs : List UInt8) (a1 : ByteArray) (w : World) (h32 : bs.length = 32) (w1 : a1.size ≤ maxLen) :
    Calls Try.prog 10 #[.agg (bs.map bv).toArray, .string a1] w fun e w' => e = .returned (.bool true) ∧ Below w.heap.size w w' := by
  obtain ⟨s, rfl⟩ : ∃ s : List UInt8, a1 = ⟨s.toArray⟩ := ⟨a1.data.toList, by simp⟩
  have hsz : (⟨s.toArray⟩ : ByteArray).size = s.length := rfl
  rw [hsz] at w1
  have hmax : s.length ≤ 9223372036854775807 := by unfold maxLen at w1; omega
  clear w1
  have HD := Lib.hid (fun W => digest_any bs W h32)
  have HT := Lib.hid (fun W => todigest_any (lets 1 4 bs) W (by rw [lets_length]; unfold lettersOf; omega))
  have HRB := Lib.hid (fun W g (hb : Blk W g 62 (bs.map bv).toArray) => (hb.rb_map : RB W (g + 1) (some ⟨g, 0, none⟩) bs.length bs))
  have HL := Lib.hid (lets_rd 1 4 rfl (.inl rfl) bs)
  have HR := Lib.hid (fun A n c B W (h : RB W B A n bs) hB hn => rwrite_k 1 4 A n c B bs W h hB rfl (.inl rfl) hn)
  have hqC := fun W => eq_bytes bs h32 W
  have hqZ := fun W => zeros_eq W
  obtain ⟨C, hC⟩ : ∃ C : Array Value, (bs.map bv).toArray = C := ⟨_, rfl⟩
  have hCs : C.size = 32 := by rw [← hC]; simpa using h32
  have hCo : C.all (·.oneCell') = true := by rw [← hC]; simp [Array.all_eq_true]; intro i hi; rfl
  obtain ⟨Zs, hZ⟩ : ∃ Zs : Array Value, zeros32 = Zs := ⟨_, rfl⟩
  have hZs : Zs.size = 32 := by rw [← hZ]; rfl
  have hlit : (#[.int .u8 0, .int .u8 0, .int .u8 0, .int .u8 0, .int .u8 0, .int .u8 0, .int .u8 0, .int .u8 0, .int .u8 0, .int .u8 0, .int .u8 0, .int .u8 0, .int .u8 0, .int .u8 0, .int .u8 0, .int .u8 0, .int .u8 0, .int .u8 0, .int .u8 0, .int .u8 0, .int .u8 0, .int .u8 0, .int .u8 0, .int .u8 0, .int .u8 0, .int .u8 0, .int .u8 0, .int .u8 0, .int .u8 0, .int .u8 0, .int .u8 0, .int .u8 0] : Array Value) = Zs := hZ
  have ST := Lib.hid (fun W => store_new W Zs C hZs hCs hCo)
  have STA := Lib.hid (fun W D (h1 : D.size = 32) (h2 : D.all (·.oneCell') = true) => store_new W Zs D hZs h1 h2)
  have LDA := Lib.hid (fun W g D (hb : Blk W g 62 D) (h1 : D.size = 32) => load_blk hb h1)
  have hZo : Zs.all (·.oneCell') = true := by rw [← hZ]; exact zeros_one
  have HZO := Lib.hid hZo
  have HZQ := Lib.hid hZ
  have LD := Lib.hid (fun W g (hb : Blk W g 62 C) => load_blk hb hCs)
  rw [hC] at HD HRB hqC ⊢
  rw [hZ] at hqZ
  have HC := Lib.hid hC
  have H32 := Lib.hid h32
  clear hC h32 hCo hZo hZ
  by_cases hbig : 134217728 < s.length
  · have hbd : decide (134217728 < s.length) = true := by simpa using hbig
    go_enter Try.func10, Try.ntmps10
    go_wp2_with fail
    refine (beyond_any _ _ hmax).mono ?_
    rintro e w' ⟨rfl, rfl⟩
    go_wp2_with fail
    go_ret
    exact ⟨rfl, (Below.refl _ _).alloc (Nat.le_refl _) _⟩
  have hbd : decide (134217728 < s.length) = false := by simpa using hbig
  have hlb : s.length ≤ 1000000000 := by omega
  have HTS := Lib.hid (fun W => todigest_any s W hlb)
  have HRS := Lib.hid (fun W => rread_k 1 4 s W rfl (.inl rfl) hlb)
  have hb0 : Blk (w.alloc (.cells C 62)) w.heap.size 62 C := Blk.new w 62 C
  have hl0 := LD.out _ _ hb0
  have HB0 := Lib.hid hb0
  have BB := Lib.hid ((Below.refl w.heap.size w).alloc (Nat.le_refl _) (.cells C 62))
  clear hb0 hbig
  go_enter Try.func10, Try.ntmps10
  go_wp2_with fail
  refine (beyond_any _ _ hmax).mono ?_
  rintro e w' ⟨rfl, rfl⟩
  go_wp2_with fail
  refine (HD.out _).mono ?_
  rintro e w1 ⟨rfl, hb⟩
  have hb1 := HB0.out.below hb HB0.out.lt
  have HB1 := Lib.hid hb1
  have B1 := Lib.hid (keepb BB.out hb)
  clear hb hb1 HB0 BB hl0
  go_wp2_with fail
  refine (HT.out _).mono ?_
  rintro e w2 hP
  obtain ⟨hb, _, _, h3⟩ := hP
  rw [HL.out, HC.out] at h3
  obtain rfl := h3 rfl H32.out
  have hb2 := HB1.out.below hb HB1.out.lt
  have HB2 := Lib.hid hb2
  have B2 := Lib.hid (keepb B1.out hb)
  have hst := ST.out w2
  clear hb hb2 h3 HB1 B1
  go_wp2_with fail
  have hb3 : Blk (w2.alloc (.cells C 62)) w2.heap.size 62 C := Blk.new w2 62 C
  have hs2 := B2.out.size
  have ha : Below w2.heap.size w2 (w2.alloc (.cells C 62)) := (Below.refl _ w2).alloc (Nat.le_refl _) _
  have hb30 := HB2.out.below ha HB2.out.lt
  have B3 := Lib.hid (keepb B2.out ha)
  refine (HR.out _ 32 32 _ _ (H32.out ▸ HRB.out _ _ hb30) (Nat.succ_le_of_lt hb30.lt) (by decide)).mono ?_
  rintro e w4 ⟨rfl, hb⟩
  have hb4 := hb30.below hb hb30.lt
  have hb5 := hb3.below hb hb3.lt
  have hl4 := LD.out _ _ hb4
  have hl5 := LD.out _ _ hb5
  have HB4 := Lib.hid hb4
  have HB5 := Lib.hid hb5
  have B4 := Lib.hid (keepb B3.out hb)
  clear hb hb3 hb30 ha hb4 hb5 B2 B3 HB2 hst
  go_wp2_with fail
  refine (HTS.out _).mono ?_
  rintro e w5 hP
  obtain ⟨hb, g1, g2, g3⟩ := hP
  rw [HZQ.out] at g1 g2
  have B5 := Lib.hid (keepb B4.out hb)
  have G1 := Lib.hid g1
  have G2 := Lib.hid g2
  have G3 := Lib.hid g3
  clear hb g1 g2 g3 hl4 hl5 HB4 HB5 B4
  by_cases hno : (rd 1 4 s).2.1 = 0
  case neg =>
    obtain rfl := G1.out hno
    have hst := STA.out w5 Zs hZs HZO.out
    have hnz : ((((rd 1 4 s).2.1 : Nat) : Int) != 0) = true := by rw [bne_iff_ne]; omega
    have HNO := Lib.hid hno
    clear G1 G2 G3 hno
    go_wp2_with fail
    have hb6 : Blk (w5.alloc (.cells Zs 62)) w5.heap.size 62 Zs := Blk.new w5 62 Zs
    have hs5 := B5.out.size
    have B6 := Lib.hid (keepb B5.out ((Below.refl _ w5).alloc (Nat.le_refl _) (.cells Zs 62)))
    refine (HRS.out _).mono ?_
    rintro e w7 ⟨v, rfl, hb, g3, g4⟩
    obtain rfl := g4 HNO.out
    have hb7 := hb6.below hb hb6.lt
    have B7 := Lib.hid (keepb B6.out hb)
    have hl7 := LDA.out _ _ _ hb7 hZs
    generalize (rd 1 4 s).2.1 = n1 at *
    generalize (rd 1 4 s).2.2 = n2 at *
    clear hb hb6 hb7 g3 g4 B5 B6 hst HRS
    go_wp2_with fail
    refine (spot_yes _ _ _).mono ?_
    rintro e w8 ⟨rfl, hb⟩
    go_wp2_with fail
    go_ret
    exact ⟨rfl, keepb B7.out hb⟩
  have hnz : ((((rd 1 4 s).2.1 : Nat) : Int) != 0) = false := by rw [hno]; rfl
  have HNO := Lib.hid hno
  clear hno
  by_cases hlen : (rd 1 4 s).1.length = 32
  · obtain rfl := G3.out HNO.out hlen
    obtain ⟨bs2, hbs2⟩ : ∃ bs2, (rd 1 4 s).1 = bs2 := ⟨_, rfl⟩
    rw [hbs2] at hlen ⊢
    have HBS := Lib.hid hbs2
    obtain ⟨D, hD⟩ : ∃ D : Array Value, (bs2.map bv).toArray = D := ⟨_, rfl⟩
    have hDs : D.size = 32 := by rw [← hD]; simpa using hlen
    have hDo : D.all (·.oneCell') = true := by rw [← hD]; simp [Array.all_eq_true]; intro i hi; rfl
    have hst := STA.out w5 D hDs hDo
    rw [hD]
    have HD2 := Lib.hid hD
    have HL2 := Lib.hid hlen
    clear hD hlen hbs2 G1 G2 G3 hDo
    go_wp2_with fail
    have hb6 : Blk (w5.alloc (.cells D 62)) w5.heap.size 62 D := Blk.new w5 62 D
    have hs5 := B5.out.size
    have B6 := Lib.hid (keepb B5.out ((Below.refl _ w5).alloc (Nat.le_refl _) (.cells D 62)))
    refine (HRS.out _).mono ?_
    rintro e w7 ⟨v, rfl, hb, g3, g4⟩
    obtain ⟨A2, c2, rfl, hrb2, hA2⟩ := g3 HNO.out
    have hb7 := hb6.below hb hb6.lt
    have B7 := Lib.hid (keepb B6.out hb)
    rw [← HD2.out] at hb7
    have hrb7 := hb7.rb_map
    rw [HBS.out] at hrb2 ⊢
    rw [HL2.out] at hrb2 hrb7 ⊢
    have HSA := Lib.hid (fun c => same_any (some ⟨w5.heap.size, 0, none⟩) A2 32 32 c c2 _ _ bs2 bs2 w7 hrb7 hrb2)
    have hbb : (bs2 == bs2) = true := by simp
    rw [hbb] at HSA
    clear hb hb6 hb7 g3 g4 B5 B6 hst HRS hrb2 hrb7 hA2 hbb
    go_wp2_with fail
    refine (HSA.out _).mono ?_
    rintro e w8 ⟨rfl, rfl⟩
    go_wp2_with fail
    go_ret
    exact ⟨rfl, B7.out⟩
  · obtain rfl := G2.out HNO.out hlen
    have hst := STA.out w5 Zs hZs HZO.out
    obtain ⟨L, hL⟩ : ∃ L, (rd 1 4 s).1.length = L := ⟨_, rfl⟩
    rw [hL] at hlen
    have t1 : ((L : Int) != 32) = true := by rw [bne_iff_ne]; omega
    have t1' : (L != 32) = true := by rw [bne_iff_ne]; omega
    have HLL := Lib.hid hL
    clear G1 G2 G3 hlen hL
    go_wp2_with fail
    have hb6 : Blk (w5.alloc (.cells Zs 62)) w5.heap.size 62 Zs := Blk.new w5 62 Zs
    have hs5 := B5.out.size
    have B6 := Lib.hid (keepb B5.out ((Below.refl _ w5).alloc (Nat.le_refl _) (.cells Zs 62)))
    refine (HRS.out _).mono ?_
    rintro e w7 ⟨v, rfl, hb, g3, g4⟩
    obtain ⟨A2, c2, rfl, hrb2, hA2⟩ := g3 HNO.out
    have hb7 := hb6.below hb hb6.lt
    have B7 := Lib.hid (keepb B6.out hb)
    have hl7 := LDA.out _ _ _ hb7 hZs
    rw [HLL.out]
    clear hb hb6 hb7 g3 g4 B5 B6 hst HRS hrb2 hA2
    go_wp2_with fail
    refine (errno_yes _ _).mono ?_
    rintro e w8 ⟨rfl, rfl⟩
    go_wp2_with fail
    go_ret
    exact ⟨rfl, B7.out⟩
end Go.Proofs.Ytdlplmflimleaaa.baseDigests
