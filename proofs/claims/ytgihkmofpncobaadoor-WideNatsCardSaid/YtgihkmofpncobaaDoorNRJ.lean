/- The document's natural numbers: a number times two to a power. -/
import Derived.Test.YtgihkmofpncobaaDoorNRI
namespace Go.Proofs.YtgihkmofpncobaaDoor
open Go.RowKit
set_option linter.unusedSimpArgs false
set_option linter.unusedVariables false

attribute [local go_sem] SGives_value SGives_skip SGives_enter CGives_value CGives_skip CGives_enter MGives_value MGives_skip MGives_enter
/-- The product, and whether it is not over. -/
def UpP (x K M : Nat) (w : World) (e : Ending) (w' : World) : Prop := ∃ A n c, e = .returned (.tuple #[.agg #[.slice A n c], .bool (!overB (x * 2 ^ K) M)]) ∧ RatL w' A n c (x * 2 ^ K) ∧ Below w.heap.size w w'
theorem up_lt {x K N Y : Nat} (hx : x < B4 ^ N) (hK : K ≤ 8192) (hN : N ≤ 5000) (hY : Y = 10000) : x * 2 ^ K < B4 ^ Y := by
  obtain ⟨m, hm⟩ : ∃ m, m = 4096 := ⟨_, rfl⟩
  have h1 : 2 ^ K < B4 ^ m := two_lt (N := m) (by omega) (by omega) (Nat.le_refl _)
  have h2 : x * 2 ^ K < B4 ^ N * B4 ^ m := Nat.mul_lt_mul'' hx h1
  rw [← Nat.pow_add] at h2
  exact Nat.lt_of_lt_of_le h2 (Nat.pow_le_pow_right (by decide) (by omega))
set_option maxRecDepth 4000000 in
set_option maxHeartbeats 4000000 in
theorem rup_far (v : Value) (x : Nat) (k : Int) (w : World) (hv : RatW w v x) (hx0 : 0 < x) (hk : 8192 < k) :
    Calls Tryd.prog 35 #[v, .int .i64 k] w fun e w' => e = .returned (.tuple #[.agg #[.slice none 0 0], .bool false]) ∧ Below w.heap.size w w' := by
  obtain ⟨A, n, c, rfl, hl⟩ := hv
  have hn : n ≠ 0 := fun h => by have := hl.zero.1 h; omega
  have hnI : ((n : Int) == 0) = false := by simp; omega
  have hn2 : ((n : Int) = 0) = False := by simp; omega
  have t1 : decide (k < 0) = false := decide_eq_false (by omega)
  have t2 : decide (8192 < k) = true := decide_eq_true hk
  clear hl
  go_enter Tryd.func35, Tryd.ntmps35
  obtain ⟨W0, hW0⟩ : ∃ W0, (w.alloc (.cells #[.slice A n c] 31)).alloc (.cells #[.slice none 0 0] 31) = W0 := ⟨_, rfl⟩
  obtain ⟨b0, b1, hb0, hsz⟩ := boxes2b hW0
  have HA := Lib.hid b0
  have HB := Lib.hid b1
  have HB0 := Lib.hid hb0
  have hp := b1.put (i := 0) (by simp) (.slice none 0 0)
  have ca := b0.cell 0
  have cf := b1.frozen 0
  have cc := b1.cell 0
  simp at ca cf cc
  clear b0 b1 hb0 hsz
  have HP := Lib.hid hp
  clear hp
  go_upto_if 14 with fail
  clear hW0
  go_wp2_with fail
  have hp := HP.out
  exact bodyPost_ret (v := .tuple #[.agg #[.slice none 0 0], .bool false]) (by simp [results, Tryd.results35, go_sem, hp]) rfl ⟨rfl, HB0.out.setCell (Nat.le_add_right _ _) _⟩
set_option maxRecDepth 4000000 in
set_option maxHeartbeats 4000000 in
theorem rup_near (v : Value) (x N K M Y : Nat) (k : Int) (w : World) (hv : RatW w v x) (hx : x < B4 ^ N) (hN : N ≤ 5000) (hk : (k < 0 ∧ K = 0) ∨ (x = 0 ∧ K = 0) ∨ (0 < x ∧ 0 ≤ k ∧ k ≤ 8192 ∧ k = (K : Int))) (hM : M = 8192) (hY : Y = 10000) :
    Calls Tryd.prog 35 #[v, .int .i64 k] w (UpP x K M w) := by
  obtain ⟨A, n, c, rfl, hl⟩ := hv
  have hz := hl.zero
  have HL := Lib.hid hl
  have HX := Lib.hid hx
  have hK : K ≤ 8192 := by omega
  have hk2 : (decide (k < 0) = true ∧ K = 0) ∨ (decide (k < 0) = false ∧ ((n : Int) == 0) = true ∧ (n : Int) = 0 ∧ K = 0) ∨ (decide (k < 0) = false ∧ ((n : Int) == 0) = false ∧ (n : Int) ≠ 0 ∧ decide (8192 < k) = false ∧ k = (K : Int)) := by
    rcases hk with ⟨h1, h2⟩ | ⟨h1, h2⟩ | ⟨h1, h2, h3, h4⟩
    · exact .inl ⟨decide_eq_true h1, h2⟩
    · have h0 := hz.2 h1
      by_cases h : k < 0
      · exact .inl ⟨decide_eq_true h, h2⟩
      · exact .inr (.inl ⟨decide_eq_false h, by simp; omega, by omega, h2⟩)
    · by_cases h : n = 0
      · have := hz.1 h; omega
      · exact .inr (.inr ⟨decide_eq_false (by omega), by simp; omega, by omega, decide_eq_false (by omega), h4⟩)
  have HK8 := Lib.hid hK
  have HUL := Lib.hid (up_lt hx hK hN hY)
  have HTW := Lib.hid (fun W => rtwo_nat K W (by omega))
  have HPR := Lib.hid (fun v u W h1 h2 => rproduct_v (N := Y) hY v u x (2 ^ K) W h1 h2 (b4_up hx (by omega)) (two_lt (N := 4096) (by omega) (by omega) (by omega)))
  have HOV := Lib.hid (fun v W h => rover_nat v (x * 2 ^ K) Y M 1000000 W h (up_lt hx hK hN hY) (by omega) hM rfl)
  clear hl hx hk hK hz hM hY
  obtain ⟨P, hP⟩ : ∃ P, 2 ^ K = P := ⟨_, rfl⟩
  unfold UpP
  simp only [hP] at HUL HTW HPR HOV ⊢
  obtain ⟨kk, hkk⟩ : ∃ kk : Int, (K : Int) = kk := ⟨_, rfl⟩
  have hkb : 0 ≤ kk ∧ kk ≤ 8192 := by have := HK8.out; omega
  obtain ⟨hk0, hk1⟩ := hkb
  simp only [hkk] at HTW hk2
  clear hP HK8
  obtain ⟨W0, hW0⟩ : ∃ W0, (w.alloc (.cells #[.slice A n c] 31)).alloc (.cells #[.slice none 0 0] 31) = W0 := ⟨_, rfl⟩
  obtain ⟨b0, b1, hb0, hsz⟩ := boxes2b hW0
  have HA := Lib.hid b0
  have HB := Lib.hid b1
  have HB0 := Lib.hid hb0
  have HSZ := Lib.hid hsz
  have HL0 := Lib.hid (HL.out.below hb0)
  have ca := b0.cell 0
  simp at ca
  clear b0 b1 hb0 hsz
  have HW0 := Lib.hid hW0
  clear hW0
  have tK : decide ((8192 : Int) < kk) = false := decide_eq_false (by omega)
  rcases hk2 with ⟨h1, rfl⟩ | ⟨h1, h2, h3, rfl⟩ | ⟨h1, h2, h3, h4, rfl⟩
  all_goals
    try (obtain rfl : kk = 0 := by omega)
    go_enter Tryd.func35, Tryd.ntmps35
    have hW0 := HW0.out
    go_upto_if 14 with fail
    clear hW0
    go_upto_region 5 with fail
    go_cut [6] from 18 to 21 (fun s6 wx => ∃ g A3 n3 c3, s6 = .pointer (some ⟨g, 0, none⟩) ∧ Below W0.heap.size W0 wx ∧ RatL wx A3 n3 c3 (x * P) ∧ Blk wx g 31 #[.slice A3 n3 c3] ∧ W0.heap.size ≤ g)
    case first =>
      obtain ⟨S, SD⟩ : ∃ S : World → Prop, Go.RowKit.Hid (∀ w' : World, S w' ↔ Below W0.heap.size W0 w') := ⟨_, Lib.hid (fun _ => Iff.rfl)⟩
      refine wp_region_way (S := S) (by kernel_rfl) (by kernel_rfl) (fun W W' h hb => (SD.out _).2 (keepb ((SD.out _).1 h) hb)) ((SD.out _).2 (Below.refl _ W0).drew) ?_
      first
        | (refine Way.no 0 (by rfl) (by kernel_rfl) (by rfl) ?_; simp only [Act.put, List.setIfInBounds_toArray, List.set_cons_zero, List.set_cons_succ])
        | (refine' Way.yes 0 (by rfl) (by kernel_rfl) (by rfl) (fun wS hS => ?_) ?_
           rotate_left
           · have hS' := (SD.out _).1 hS
             have c1 := (HA.out.below hS' HA.out.lt).cell 0
             simp at c1
             go_simp
             first
               | exact ⟨rfl, Below.refl _ _⟩
           simp only [Act.put, List.setIfInBounds_toArray, List.set_cons_zero, List.set_cons_succ])
      first
        | (refine Way.no 1 (by rfl) (by kernel_rfl) (by rfl) ?_; simp only [Act.put, List.setIfInBounds_toArray, List.set_cons_zero, List.set_cons_succ])
        | (refine' Way.yes 1 (by rfl) (by kernel_rfl) (by rfl) (fun wS hS => ?_) ?_
           rotate_left
           · have hS' := (SD.out _).1 hS
             have c1 := (HA.out.below hS' HA.out.lt).cell 0
             simp at c1
             go_simp
             first
               | exact ⟨rfl, Below.refl _ _⟩
           simp only [Act.put, List.setIfInBounds_toArray, List.set_cons_zero, List.set_cons_succ])
      refine Way.move2 2 4 (by rfl) (by rfl) (by kernel_rfl) (by rfl) (by rfl) (fun wA hS => ?_) (fun wA hS => ?_)
      · obtain hB := (SD.out _).1 hS
        clear hS
        go_simp
        refine (HTW.out _).mono ?_
        rintro e wN ⟨A2, n2, c2, rfl, hT', hb⟩
        refine ⟨_, rfl, ?_⟩
        obtain ⟨S1, S1D⟩ : ∃ S : World → Prop, Go.RowKit.Hid (∀ w' : World, S w' ↔ (Below W0.heap.size W0 w' ∧ RatL w' A2 n2 c2 P)) := ⟨_, Lib.hid (fun _ => Iff.rfl)⟩
        refine Moved.keep S1 (fun W W' h hb => by obtain ⟨hB, hT⟩ := (S1D.out _).1 h; exact (S1D.out _).2 ⟨keepb hB hb, hT.below hb⟩) (fun W h => by obtain ⟨hB, hT⟩ := (S1D.out _).1 h; exact (SD.out _).2 hB) ((S1D.out _).2 ⟨keepb hB hb, hT'⟩) ?_
        clear hB hb hT'
        simp only [Act.put, List.setIfInBounds_toArray, List.set_cons_zero, List.set_cons_succ]
        refine Way.move2 3 4 (by rfl) (by rfl) (by kernel_rfl) (by rfl) (by rfl) (fun wA hS => ?_) (fun wA hS => ?_)
        · obtain ⟨hB, hT⟩ := (S1D.out _).1 hS
          clear hS
          go_simp
          refine (HPR.out _ _ _ (HL0.out.below hB).w hT.w).mono ?_
          rintro e wN ⟨A3, n3, c3, rfl, hP', hb⟩
          refine ⟨_, rfl, ?_⟩
          obtain ⟨S2, S2D⟩ : ∃ S : World → Prop, Go.RowKit.Hid (∀ w' : World, S w' ↔ (Below W0.heap.size W0 w' ∧ RatL w' A2 n2 c2 P ∧ RatL w' A3 n3 c3 (x * P))) := ⟨_, Lib.hid (fun _ => Iff.rfl)⟩
          refine Moved.keep S2 (fun W W' h hb => by obtain ⟨hB, hT, hP⟩ := (S2D.out _).1 h; exact (S2D.out _).2 ⟨keepb hB hb, hT.below hb, hP.below hb⟩) (fun W h => by obtain ⟨hB, hT, hP⟩ := (S2D.out _).1 h; exact (S1D.out _).2 ⟨hB, hT⟩) ((S2D.out _).2 ⟨keepb hB hb, hT.below hb, hP'⟩) ?_
          clear hB hb hT hP'
          simp only [Act.put, List.setIfInBounds_toArray, List.set_cons_zero, List.set_cons_succ]
          refine Way.move 4 (by rfl) (by kernel_rfl) (by rfl) (fun wA hS => ?_)
          obtain ⟨hB, hT, hP⟩ := (S2D.out _).1 hS
          clear hS
          have hb := below_new wA (.cells #[.slice none 0 0] 31)
          have hX' := Blk.new wA 31 #[.slice none 0 0]
          have hg' := hB.size
          go_simp
          obtain ⟨g, hgg⟩ : ∃ g, wA.heap.size = g := ⟨_, rfl⟩
          rw [hgg] at hX' hg'
          simp only [hgg]
          obtain ⟨S3, S3D⟩ : ∃ S : World → Prop, Go.RowKit.Hid (∀ w' : World, S w' ↔ (Below W0.heap.size W0 w' ∧ RatL w' A2 n2 c2 P ∧ RatL w' A3 n3 c3 (x * P) ∧ (Blk w' g 31 #[.slice none 0 0] ∧ W0.heap.size ≤ g))) := ⟨_, Lib.hid (fun _ => Iff.rfl)⟩
          refine Moved.keep S3 (fun W W' h hb => by obtain ⟨hB, hT, hP, ⟨hX, hg⟩⟩ := (S3D.out _).1 h; exact (S3D.out _).2 ⟨keepb hB hb, hT.below hb, hP.below hb, ⟨hX.below hb hX.lt, hg⟩⟩) (fun W h => by obtain ⟨hB, hT, hP, hX⟩ := (S3D.out _).1 h; exact (S2D.out _).2 ⟨hB, hT, hP⟩) ((S3D.out _).2 ⟨keepb hB hb, hT.below hb, hP.below hb, ⟨hX', hg'⟩⟩) ?_
          clear hB hb hT hP hX' hg' hgg
          simp only [Act.put, List.setIfInBounds_toArray, List.set_cons_zero, List.set_cons_succ]
          refine Way.move 5 (by rfl) (by kernel_rfl) (by rfl) (fun wA hS => ?_)
          obtain ⟨hB, hT, hP, ⟨hX, hg⟩⟩ := (S3D.out _).1 hS
          clear hS
          have f1 := hX.frozen 0
          have c1 := hX.cell 0
          simp only [List.getElem?_toArray, List.getElem?_cons_zero] at c1
          go_simp
          obtain ⟨T, TD⟩ : ∃ S : World → Prop, Go.RowKit.Hid (∀ w' : World, S w' ↔ (Below W0.heap.size W0 w' ∧ RatL w' A3 n3 c3 (x * P) ∧ Blk w' g 31 #[.slice A3 n3 c3] ∧ W0.heap.size ≤ g)) := ⟨_, Lib.hid (fun _ => Iff.rfl)⟩
          refine Moved.turn T (fun W W' h hb => by obtain ⟨h1, h2, h3, h4⟩ := (TD.out _).1 h; exact (TD.out _).2 ⟨keepb h1 hb, h2.below hb, h3.below hb h3.lt, h4⟩) (by kernel_rfl) ((TD.out _).2 ⟨hB.setCell hg _, hP.set hX (by decide) _, hX.set1 0 _, hg⟩) ?_
          clear hB hT hP hX hg f1 c1
          simp only [Act.put, List.setIfInBounds_toArray, List.set_cons_zero, List.set_cons_succ]
          refine Way.done (by kernel_rfl) (fun wE hS => ?_)
          have hS' := (TD.out _).1 hS
          go_wp2_with fail
          go_meet
          exact ⟨_, _, _, _, rfl, hS'⟩
        · obtain ⟨hB, hT⟩ := (S1D.out _).1 hS
          clear hS
          have hb := below_new wA (.cells #[.slice none 0 0] 31)
          have hX' := Blk.new wA 31 #[.slice none 0 0]
          have hg' := hB.size
          go_simp
          obtain ⟨g, hgg⟩ : ∃ g, wA.heap.size = g := ⟨_, rfl⟩
          rw [hgg] at hX' hg'
          simp only [hgg]
          obtain ⟨S4, S4D⟩ : ∃ S : World → Prop, Go.RowKit.Hid (∀ w' : World, S w' ↔ (Below W0.heap.size W0 w' ∧ RatL w' A2 n2 c2 P ∧ (Blk w' g 31 #[.slice none 0 0] ∧ W0.heap.size ≤ g))) := ⟨_, Lib.hid (fun _ => Iff.rfl)⟩
          refine Moved.keep S4 (fun W W' h hb => by obtain ⟨hB, hT, ⟨hX, hg⟩⟩ := (S4D.out _).1 h; exact (S4D.out _).2 ⟨keepb hB hb, hT.below hb, ⟨hX.below hb hX.lt, hg⟩⟩) (fun W h => by obtain ⟨hB, hT, hX⟩ := (S4D.out _).1 h; exact (S1D.out _).2 ⟨hB, hT⟩) ((S4D.out _).2 ⟨keepb hB hb, hT.below hb, ⟨hX', hg'⟩⟩) ?_
          clear hB hb hT hX' hg' hgg
          simp only [Act.put, List.setIfInBounds_toArray, List.set_cons_zero, List.set_cons_succ]
          refine Way.move 3 (by rfl) (by kernel_rfl) (by rfl) (fun wA hS => ?_)
          obtain ⟨hB, hT, ⟨hX, hg⟩⟩ := (S4D.out _).1 hS
          clear hS
          go_simp
          refine (HPR.out _ _ _ (HL0.out.below hB).w hT.w).mono ?_
          rintro e wN ⟨A3, n3, c3, rfl, hP', hb⟩
          refine ⟨_, rfl, ?_⟩
          obtain ⟨S5, S5D⟩ : ∃ S : World → Prop, Go.RowKit.Hid (∀ w' : World, S w' ↔ (Below W0.heap.size W0 w' ∧ RatL w' A2 n2 c2 P ∧ RatL w' A3 n3 c3 (x * P) ∧ (Blk w' g 31 #[.slice none 0 0] ∧ W0.heap.size ≤ g))) := ⟨_, Lib.hid (fun _ => Iff.rfl)⟩
          refine Moved.keep S5 (fun W W' h hb => by obtain ⟨hB, hT, hP, ⟨hX, hg⟩⟩ := (S5D.out _).1 h; exact (S5D.out _).2 ⟨keepb hB hb, hT.below hb, hP.below hb, ⟨hX.below hb hX.lt, hg⟩⟩) (fun W h => by obtain ⟨hB, hT, hP, hX⟩ := (S5D.out _).1 h; exact (S4D.out _).2 ⟨hB, hT, hX⟩) ((S5D.out _).2 ⟨keepb hB hb, hT.below hb, hP', ⟨hX.below hb hX.lt, hg⟩⟩) ?_
          clear hB hb hT hX hg hP'
          simp only [Act.put, List.setIfInBounds_toArray, List.set_cons_zero, List.set_cons_succ]
          refine Way.move 5 (by rfl) (by kernel_rfl) (by rfl) (fun wA hS => ?_)
          obtain ⟨hB, hT, hP, ⟨hX, hg⟩⟩ := (S5D.out _).1 hS
          clear hS
          have f1 := hX.frozen 0
          have c1 := hX.cell 0
          simp only [List.getElem?_toArray, List.getElem?_cons_zero] at c1
          go_simp
          obtain ⟨T, TD⟩ : ∃ S : World → Prop, Go.RowKit.Hid (∀ w' : World, S w' ↔ (Below W0.heap.size W0 w' ∧ RatL w' A3 n3 c3 (x * P) ∧ Blk w' g 31 #[.slice A3 n3 c3] ∧ W0.heap.size ≤ g)) := ⟨_, Lib.hid (fun _ => Iff.rfl)⟩
          refine Moved.turn T (fun W W' h hb => by obtain ⟨h1, h2, h3, h4⟩ := (TD.out _).1 h; exact (TD.out _).2 ⟨keepb h1 hb, h2.below hb, h3.below hb h3.lt, h4⟩) (by kernel_rfl) ((TD.out _).2 ⟨hB.setCell hg _, hP.set hX (by decide) _, hX.set1 0 _, hg⟩) ?_
          clear hB hT hP hX hg f1 c1
          simp only [Act.put, List.setIfInBounds_toArray, List.set_cons_zero, List.set_cons_succ]
          refine Way.done (by kernel_rfl) (fun wE hS => ?_)
          have hS' := (TD.out _).1 hS
          go_wp2_with fail
          go_meet
          exact ⟨_, _, _, _, rfl, hS'⟩
      · obtain hB := (SD.out _).1 hS
        clear hS
        have hb := below_new wA (.cells #[.slice none 0 0] 31)
        have hX' := Blk.new wA 31 #[.slice none 0 0]
        have hg' := hB.size
        go_simp
        obtain ⟨g, hgg⟩ : ∃ g, wA.heap.size = g := ⟨_, rfl⟩
        rw [hgg] at hX' hg'
        simp only [hgg]
        obtain ⟨S6, S6D⟩ : ∃ S : World → Prop, Go.RowKit.Hid (∀ w' : World, S w' ↔ (Below W0.heap.size W0 w' ∧ (Blk w' g 31 #[.slice none 0 0] ∧ W0.heap.size ≤ g))) := ⟨_, Lib.hid (fun _ => Iff.rfl)⟩
        refine Moved.keep S6 (fun W W' h hb => by obtain ⟨hB, ⟨hX, hg⟩⟩ := (S6D.out _).1 h; exact (S6D.out _).2 ⟨keepb hB hb, ⟨hX.below hb hX.lt, hg⟩⟩) (fun W h => by obtain ⟨hB, hX⟩ := (S6D.out _).1 h; exact (SD.out _).2 hB) ((S6D.out _).2 ⟨keepb hB hb, ⟨hX', hg'⟩⟩) ?_
        clear hB hb hX' hg' hgg
        simp only [Act.put, List.setIfInBounds_toArray, List.set_cons_zero, List.set_cons_succ]
        refine Way.move 2 (by rfl) (by kernel_rfl) (by rfl) (fun wA hS => ?_)
        obtain ⟨hB, ⟨hX, hg⟩⟩ := (S6D.out _).1 hS
        clear hS
        go_simp
        refine (HTW.out _).mono ?_
        rintro e wN ⟨A2, n2, c2, rfl, hT', hb⟩
        refine ⟨_, rfl, ?_⟩
        obtain ⟨S7, S7D⟩ : ∃ S : World → Prop, Go.RowKit.Hid (∀ w' : World, S w' ↔ (Below W0.heap.size W0 w' ∧ RatL w' A2 n2 c2 P ∧ (Blk w' g 31 #[.slice none 0 0] ∧ W0.heap.size ≤ g))) := ⟨_, Lib.hid (fun _ => Iff.rfl)⟩
        refine Moved.keep S7 (fun W W' h hb => by obtain ⟨hB, hT, ⟨hX, hg⟩⟩ := (S7D.out _).1 h; exact (S7D.out _).2 ⟨keepb hB hb, hT.below hb, ⟨hX.below hb hX.lt, hg⟩⟩) (fun W h => by obtain ⟨hB, hT, hX⟩ := (S7D.out _).1 h; exact (S6D.out _).2 ⟨hB, hX⟩) ((S7D.out _).2 ⟨keepb hB hb, hT', ⟨hX.below hb hX.lt, hg⟩⟩) ?_
        clear hB hb hX hg hT'
        simp only [Act.put, List.setIfInBounds_toArray, List.set_cons_zero, List.set_cons_succ]
        refine Way.move 3 (by rfl) (by kernel_rfl) (by rfl) (fun wA hS => ?_)
        obtain ⟨hB, hT, ⟨hX, hg⟩⟩ := (S7D.out _).1 hS
        clear hS
        go_simp
        refine (HPR.out _ _ _ (HL0.out.below hB).w hT.w).mono ?_
        rintro e wN ⟨A3, n3, c3, rfl, hP', hb⟩
        refine ⟨_, rfl, ?_⟩
        obtain ⟨S8, S8D⟩ : ∃ S : World → Prop, Go.RowKit.Hid (∀ w' : World, S w' ↔ (Below W0.heap.size W0 w' ∧ RatL w' A2 n2 c2 P ∧ RatL w' A3 n3 c3 (x * P) ∧ (Blk w' g 31 #[.slice none 0 0] ∧ W0.heap.size ≤ g))) := ⟨_, Lib.hid (fun _ => Iff.rfl)⟩
        refine Moved.keep S8 (fun W W' h hb => by obtain ⟨hB, hT, hP, ⟨hX, hg⟩⟩ := (S8D.out _).1 h; exact (S8D.out _).2 ⟨keepb hB hb, hT.below hb, hP.below hb, ⟨hX.below hb hX.lt, hg⟩⟩) (fun W h => by obtain ⟨hB, hT, hP, hX⟩ := (S8D.out _).1 h; exact (S7D.out _).2 ⟨hB, hT, hX⟩) ((S8D.out _).2 ⟨keepb hB hb, hT.below hb, hP', ⟨hX.below hb hX.lt, hg⟩⟩) ?_
        clear hB hb hX hg hT hP'
        simp only [Act.put, List.setIfInBounds_toArray, List.set_cons_zero, List.set_cons_succ]
        refine Way.move 5 (by rfl) (by kernel_rfl) (by rfl) (fun wA hS => ?_)
        obtain ⟨hB, hT, hP, ⟨hX, hg⟩⟩ := (S8D.out _).1 hS
        clear hS
        have f1 := hX.frozen 0
        have c1 := hX.cell 0
        simp only [List.getElem?_toArray, List.getElem?_cons_zero] at c1
        go_simp
        obtain ⟨T, TD⟩ : ∃ S : World → Prop, Go.RowKit.Hid (∀ w' : World, S w' ↔ (Below W0.heap.size W0 w' ∧ RatL w' A3 n3 c3 (x * P) ∧ Blk w' g 31 #[.slice A3 n3 c3] ∧ W0.heap.size ≤ g)) := ⟨_, Lib.hid (fun _ => Iff.rfl)⟩
        refine Moved.turn T (fun W W' h hb => by obtain ⟨h1, h2, h3, h4⟩ := (TD.out _).1 h; exact (TD.out _).2 ⟨keepb h1 hb, h2.below hb, h3.below hb h3.lt, h4⟩) (by kernel_rfl) ((TD.out _).2 ⟨hB.setCell hg _, hP.set hX (by decide) _, hX.set1 0 _, hg⟩) ?_
        clear hB hT hP hX hg f1 c1
        simp only [Act.put, List.setIfInBounds_toArray, List.set_cons_zero, List.set_cons_succ]
        refine Way.done (by kernel_rfl) (fun wE hS => ?_)
        have hS' := (TD.out _).1 hS
        go_wp2_with fail
        go_meet
        exact ⟨_, _, _, _, rfl, hS'⟩
    case rest =>
    obtain ⟨g, A3, n3, c3, rfl, hB, hP, hX, hg⟩ := hcut
    have HBC := Lib.hid (keepb HB0.out hB)
    have HPC := Lib.hid hP
    have HXC := Lib.hid hX
    have HBB := Lib.hid (HB.out.below hB HB.out.lt)
    have HNE := Lib.hid (show w.heap.size + 1 ≠ g by have := HSZ.out; omega)
    clear hB hP hX hg
    go_upto_region 6 with fail
    obtain ⟨S, SD⟩ : ∃ S : World → Prop, Go.RowKit.Hid (∀ w' : World, S w' ↔ (Below w.heap.size w w' ∧ RatL w' A3 n3 c3 (x * P) ∧ Blk w' g 31 #[.slice A3 n3 c3] ∧ ∃ u, Blk w' (w.heap.size + 1) 31 #[u])) := ⟨_, Lib.hid (fun _ => Iff.rfl)⟩
    refine wp_region_way (S := S) (by kernel_rfl) (by kernel_rfl) (fun W W' h hb => by obtain ⟨h1, h2, h3, u, h4⟩ := (SD.out _).1 h; exact (SD.out _).2 ⟨keepb h1 hb, h2.below hb, h3.below hb h3.lt, u, h4.below hb h4.lt⟩) ((SD.out _).2 ⟨keepb HBC.out (Below.refl _ wc).drew, HPC.out.below (Below.refl _ wc).drew, HXC.out.below (Below.refl _ wc).drew HXC.out.lt, _, HBB.out.below (Below.refl _ wc).drew HBB.out.lt⟩) ?_
    first
      | (refine Way.no 0 (by rfl) (by kernel_rfl) (by rfl) ?_; simp only [Act.put, List.setIfInBounds_toArray, List.set_cons_zero, List.set_cons_succ])
      | (refine' Way.yes 0 (by rfl) (by kernel_rfl) (by rfl) (fun wS hS => ?_) ?_
         rotate_left
         · have hS' := (SD.out _).1 hS
           have c1 := hS'.2.2.1.cell 0
           simp at c1
           go_simp
           first
             | exact ⟨rfl, Below.refl _ _⟩
         simp only [Act.put, List.setIfInBounds_toArray, List.set_cons_zero, List.set_cons_succ])
    first
      | (refine Way.no 1 (by rfl) (by kernel_rfl) (by rfl) ?_; simp only [Act.put, List.setIfInBounds_toArray, List.set_cons_zero, List.set_cons_succ])
      | (refine' Way.yes 1 (by rfl) (by kernel_rfl) (by rfl) (fun wS hS => ?_) ?_
         rotate_left
         · have hS' := (SD.out _).1 hS
           have c1 := hS'.2.2.1.cell 0
           simp at c1
           go_simp
           first
             | exact ⟨rfl, Below.refl _ _⟩
         simp only [Act.put, List.setIfInBounds_toArray, List.set_cons_zero, List.set_cons_succ])
    refine' Way.yes (v := .bool (overB (x * P) M)) 2 (by rfl) (by kernel_rfl) (by rfl) (fun wS hS => ?_) ?_
    · have hS' := (SD.out _).1 hS
      go_simp
      exact (HOV.out _ _ hS'.2.1.w).mono fun e w2 h => h
    simp only [Act.put, List.setIfInBounds_toArray, List.set_cons_zero, List.set_cons_succ]
    first
      | (refine Way.no 3 (by rfl) (by kernel_rfl) (by rfl) ?_; simp only [Act.put, List.setIfInBounds_toArray, List.set_cons_zero, List.set_cons_succ])
      | (refine' Way.yes 3 (by rfl) (by kernel_rfl) (by rfl) (fun wS hS => ?_) ?_
         rotate_left
         · have hS' := (SD.out _).1 hS
           go_simp
           first
             | exact ⟨rfl, Below.refl _ _⟩
         simp only [Act.put, List.setIfInBounds_toArray, List.set_cons_zero, List.set_cons_succ])
    refine Way.move 4 (by rfl) (by kernel_rfl) (by rfl) (fun wA hS => ?_)
    obtain ⟨hA, hP, hX, u0, kB⟩ := (SD.out _).1 hS
    have f1 := kB.frozen 0
    have c1 := kB.cell 0
    simp at c1
    clear hS
    go_simp
    obtain ⟨T, TD⟩ : ∃ S : World → Prop, Go.RowKit.Hid (∀ w' : World, S w' ↔ (Below w.heap.size w w' ∧ RatL w' A3 n3 c3 (x * P) ∧ Blk w' g 31 #[.slice A3 n3 c3] ∧ Blk w' (w.heap.size + 1) 31 #[.slice A3 n3 c3])) := ⟨_, Lib.hid (fun _ => Iff.rfl)⟩
    refine Moved.keep T (fun W W' h hb => by obtain ⟨h1, h2, h3, h4⟩ := (TD.out _).1 h; exact (TD.out _).2 ⟨keepb h1 hb, h2.below hb, h3.below hb h3.lt, h4.below hb h4.lt⟩) (fun W h => by obtain ⟨h1, h2, h3, h4⟩ := (TD.out _).1 h; exact (SD.out _).2 ⟨h1, h2, h3, _, h4⟩) ((TD.out _).2 ⟨hA.setCell (Nat.le_add_right _ _) _, hP.set kB (by decide) _, hX.far (Ne.symm HNE.out) _, kB.set1 0 _⟩) ?_
    clear hA hP hX kB f1 c1
    simp only [Act.put, List.setIfInBounds_toArray, List.set_cons_zero, List.set_cons_succ]
    first
      | (refine Way.no 5 (by rfl) (by kernel_rfl) (by rfl) ?_; simp only [Act.put, List.setIfInBounds_toArray, List.set_cons_zero, List.set_cons_succ])
      | (refine' Way.yes 5 (by rfl) (by kernel_rfl) (by rfl) (fun wS hS => ?_) ?_
         rotate_left
         · have hS' := (TD.out _).1 hS
           go_simp
           first
             | exact ⟨rfl, Below.refl _ _⟩
         simp only [Act.put, List.setIfInBounds_toArray, List.set_cons_zero, List.set_cons_succ])
    refine Way.done (by kernel_rfl) (fun wE hS => ?_)
    obtain ⟨q1, q2, _, q3⟩ := (TD.out _).1 hS
    have c1 := q3.cell 0
    simp at c1
    have Q1 := Lib.hid q1
    have Q2 := Lib.hid q2
    clear hS q1 q2 q3
    go_wp2_with fail
    exact bodyPost_ret (v := .tuple #[.agg #[.slice A3 n3 c3], .bool (!overB (x * P) M)]) (by simp [results, Tryd.results35, go_sem, c1]) rfl ⟨_, _, _, rfl, Q2.out, Q1.out⟩
end Go.Proofs.YtgihkmofpncobaaDoor
