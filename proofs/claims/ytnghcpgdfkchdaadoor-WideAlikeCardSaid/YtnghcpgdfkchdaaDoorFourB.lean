/- Numbers of 128 bits as four parts: pairs of the statement's own, comparison, difference. -/
import Derived.Test.YtnghcpgdfkchdaaDoorFour
import Derived.IntWalk
namespace Go.Proofs.YtnghcpgdfkchdaaDoor
open Go.RowKit
attribute [local go_sem] CGives_value CGives_skip CGives_enter MGives_value MGives_skip MGives_enter
set_option linter.unusedSimpArgs false
set_option linter.unusedVariables false

theorem Blk.new2 (w : World) (t : TypeId) (cs : Array Value) (o : Obj) : Blk ((w.alloc o).alloc (.cells cs t)) (w.heap.size + 1) t cs := by
  have := Blk.new (w.alloc o) t cs; rwa [World.size_alloc] at this
theorem Blk.st {w w' : World} {g : Nat} {t : TypeId} {cs : Array Value} (h : Blk w g t cs) (hb : Below w.heap.size w w') : Blk w' g t cs := h.below hb h.lt

set_option maxRecDepth 100000 in
theorem pair_any (N : Nat) (hN : N < P128) (w : World) :
    Calls Tryd.prog 17 #[fv N] w fun e w' => e = .returned (pv N) ∧ Below w.heap.size w w' := by
  have HH := Lib.hid (fun W => rhi_any N hN W)
  have HL := Lib.hid (fun W => rlo_any N W)
  clear hN
  unfold fv at *
  unfold pv
  generalize q0 N = x0 at *
  generalize q1 N = x1 at *
  generalize q2 N = x2 at *
  generalize q3 N = x3 at *
  generalize pHi N = h at *
  generalize pLo N = l at *
  go_enter Tryd.func17, Tryd.ntmps17
  go_wp2_with fail
  have SDL : w.heap.size ≤ w.heap.size := by first | exact Nat.le_refl _ | omega | (simp; done)
  obtain ⟨S, SD⟩ : ∃ S : World → Prop, Go.RowKit.Hid (∀ w' : World, S w' ↔ (Blk w' w.heap.size 30 #[wv x0, wv x1, wv x2, wv x3] ∧ (∃ u0 u1, Blk w' (w.heap.size + 1) 24 #[u0, u1]) ∧ Below w.heap.size w w')) := ⟨_, Lib.hid (fun _ => Iff.rfl)⟩
  refine wp_region_way (S := S) (by kernel_rfl) (by kernel_rfl) (fun W W' h hb => by obtain ⟨h0, ⟨u1_0, u1_1, h1⟩, hB⟩ := (SD.out _).1 h; exact (SD.out _).2 ⟨h0.st hb, ⟨u1_0, u1_1, h1.st hb⟩, hB.trans (hb.mono (Nat.le_trans SDL hB.size))⟩) ((SD.out _).2 (⟨(Blk.new w _ _).alloc _, ⟨_, _, Blk.new2 w _ _ _⟩, (((Below.refl _ w).alloc (Nat.le_refl _) _).alloc (by simp) _).drew⟩)) ?_
  first
    | (refine Way.no 0 (by rfl) (by kernel_rfl) (by rfl) ?_; simp only [Act.put, List.setIfInBounds_toArray, List.set_cons_zero, List.set_cons_succ])
    | (refine' Way.yes 0 (by rfl) (by kernel_rfl) (by rfl) (fun wS hS => ?_) ?_
       rotate_left
       · have hS' := (SD.out _).1 hS
         obtain ⟨hb0, ⟨u1_0, u1_1, hb1⟩, hB⟩ := hS'
         have c0_0 := hb0.cell 0
         have c0_1 := hb0.cell 1
         have c0_2 := hb0.cell 2
         have c0_3 := hb0.cell 3
         have c1_0 := hb1.cell 0
         have c1_1 := hb1.cell 1
         go_simp
         first
           | exact ⟨rfl, Below.refl _ _⟩
           | (go_at_call 54; exact HH.out _)
           | (go_at_call 53; exact HL.out _)
       simp only [Act.put, List.setIfInBounds_toArray, List.set_cons_zero, List.set_cons_succ])
  first
    | (refine Way.no 1 (by rfl) (by kernel_rfl) (by rfl) ?_; simp only [Act.put, List.setIfInBounds_toArray, List.set_cons_zero, List.set_cons_succ])
    | (refine' Way.yes 1 (by rfl) (by kernel_rfl) (by rfl) (fun wS hS => ?_) ?_
       rotate_left
       · have hS' := (SD.out _).1 hS
         obtain ⟨hb0, ⟨u1_0, u1_1, hb1⟩, hB⟩ := hS'
         have c0_0 := hb0.cell 0
         have c0_1 := hb0.cell 1
         have c0_2 := hb0.cell 2
         have c0_3 := hb0.cell 3
         have c1_0 := hb1.cell 0
         have c1_1 := hb1.cell 1
         go_simp
         first
           | exact ⟨rfl, Below.refl _ _⟩
           | (go_at_call 54; exact HH.out _)
           | (go_at_call 53; exact HL.out _)
       simp only [Act.put, List.setIfInBounds_toArray, List.set_cons_zero, List.set_cons_succ])
  first
    | (refine Way.no 2 (by rfl) (by kernel_rfl) (by rfl) ?_; simp only [Act.put, List.setIfInBounds_toArray, List.set_cons_zero, List.set_cons_succ])
    | (refine' Way.yes 2 (by rfl) (by kernel_rfl) (by rfl) (fun wS hS => ?_) ?_
       rotate_left
       · have hS' := (SD.out _).1 hS
         obtain ⟨hb0, ⟨u1_0, u1_1, hb1⟩, hB⟩ := hS'
         have c0_0 := hb0.cell 0
         have c0_1 := hb0.cell 1
         have c0_2 := hb0.cell 2
         have c0_3 := hb0.cell 3
         have c1_0 := hb1.cell 0
         have c1_1 := hb1.cell 1
         go_simp
         first
           | exact ⟨rfl, Below.refl _ _⟩
           | (go_at_call 54; exact HH.out _)
           | (go_at_call 53; exact HL.out _)
       simp only [Act.put, List.setIfInBounds_toArray, List.set_cons_zero, List.set_cons_succ])
  first
    | (refine Way.no 3 (by rfl) (by kernel_rfl) (by rfl) ?_; simp only [Act.put, List.setIfInBounds_toArray, List.set_cons_zero, List.set_cons_succ])
    | (refine' Way.yes 3 (by rfl) (by kernel_rfl) (by rfl) (fun wS hS => ?_) ?_
       rotate_left
       · have hS' := (SD.out _).1 hS
         obtain ⟨hb0, ⟨u1_0, u1_1, hb1⟩, hB⟩ := hS'
         have c0_0 := hb0.cell 0
         have c0_1 := hb0.cell 1
         have c0_2 := hb0.cell 2
         have c0_3 := hb0.cell 3
         have c1_0 := hb1.cell 0
         have c1_1 := hb1.cell 1
         go_simp
         first
           | exact ⟨rfl, Below.refl _ _⟩
           | (go_at_call 54; exact HH.out _)
           | (go_at_call 53; exact HL.out _)
       simp only [Act.put, List.setIfInBounds_toArray, List.set_cons_zero, List.set_cons_succ])
  first
    | (refine Way.no 4 (by rfl) (by kernel_rfl) (by rfl) ?_; simp only [Act.put, List.setIfInBounds_toArray, List.set_cons_zero, List.set_cons_succ])
    | (refine' Way.yes 4 (by rfl) (by kernel_rfl) (by rfl) (fun wS hS => ?_) ?_
       rotate_left
       · have hS' := (SD.out _).1 hS
         obtain ⟨hb0, ⟨u1_0, u1_1, hb1⟩, hB⟩ := hS'
         have c0_0 := hb0.cell 0
         have c0_1 := hb0.cell 1
         have c0_2 := hb0.cell 2
         have c0_3 := hb0.cell 3
         have c1_0 := hb1.cell 0
         have c1_1 := hb1.cell 1
         go_simp
         first
           | exact ⟨rfl, Below.refl _ _⟩
           | (go_at_call 54; exact HH.out _)
           | (go_at_call 53; exact HL.out _)
       simp only [Act.put, List.setIfInBounds_toArray, List.set_cons_zero, List.set_cons_succ])
  refine Way.move 5 (by rfl) (by kernel_rfl) (by rfl) (fun wS hS => ?_)
  have hS' := (SD.out _).1 hS
  obtain ⟨hb0, ⟨u1_0, u1_1, hb1⟩, hB⟩ := hS'
  have c0_0 := hb0.cell 0
  have c0_1 := hb0.cell 1
  have c0_2 := hb0.cell 2
  have c0_3 := hb0.cell 3
  have c1_0 := hb1.cell 0
  have c1_1 := hb1.cell 1
  have f1_0 := hb1.frozen 0
  have f1_1 := hb1.frozen 1
  go_simp
  obtain ⟨S_1, SD_1⟩ : ∃ S_1 : World → Prop, Go.RowKit.Hid (∀ x : World, S_1 x ↔ (Blk x w.heap.size 30 #[wv x0, wv x1, wv x2, wv x3] ∧ Blk x (w.heap.size + 1) 24 #[wv h, wv l] ∧ Below w.heap.size w x)) := ⟨_, Lib.hid (fun _ => Iff.rfl)⟩
  have hst : Stays S_1 := fun W W' h hb => by obtain ⟨h0, h1, hB⟩ := (SD_1.out _).1 h; exact (SD_1.out _).2 ⟨h0.st hb, h1.st hb, hB.trans (hb.mono (Nat.le_trans SDL hB.size))⟩
  have hle : ∀ x, S_1 x → S x := fun x h => by obtain ⟨h0, h1, hB⟩ := (SD_1.out _).1 h; exact (SD.out _).2 ⟨h0, ⟨_, _, h1⟩, hB⟩
  refine Moved.keep S_1 hst hle ((SD_1.out _).2 ⟨((hb0.far (by first | (simp; done) | (simp; omega)) _).far (by first | (simp; done) | (simp; omega)) _), ((hb1.set1 0 _).set1 1 _), ((hB.setCell (by first | (simp; done) | (simp; omega)) _).setCell (by first | (simp; done) | (simp; omega)) _)⟩) ?_
  try simp only [Act.put, List.setIfInBounds_toArray, List.set_cons_zero, List.set_cons_succ]
  refine Way.done (by kernel_rfl) (fun wE hS => ?_)
  have hS' := (SD_1.out _).1 hS
  obtain ⟨hb0, hb1, hB⟩ := hS'
  have c0_0 := hb0.cell 0
  have c0_1 := hb0.cell 1
  have c0_2 := hb0.cell 2
  have c0_3 := hb0.cell 3
  have c1_0 := hb1.cell 0
  have c1_1 := hb1.cell 1
  clear hS
  go_wp2_with fail
  exact bodyPost_ret (v := .agg #[wv h, wv l]) (by simp [results, Tryd.results17, go_sem, c1_0, c1_1]) rfl ⟨rfl, hB⟩

set_option maxRecDepth 100000 in
theorem four_any (N : Nat) (hN : N < P128) (w : World) :
    Calls Tryd.prog 29 #[pv N] w fun e w' => e = .returned (fv N) ∧ Below w.heap.size w w' := by
  have HC := Lib.hid (fun W => cut_any (pHi N) (pLo N) (pHi_lt hN) (pLo_lt N) W)
  rw [p_eq] at HC
  clear hN
  unfold fv at *
  unfold pv
  generalize q0 N = x0 at *
  generalize q1 N = x1 at *
  generalize q2 N = x2 at *
  generalize q3 N = x3 at *
  generalize pHi N = h at *
  generalize pLo N = l at *
  go_enter Tryd.func29, Tryd.ntmps29
  go_wp2_with fail
  refine (HC.out _).mono ?_
  rintro e w1 ⟨rfl, hb⟩
  have hB2 := (Blk.new2 w 30 #[.int .u64 0, .int .u64 0, .int .u64 0, .int .u64 0] (.cells #[wv h, wv l] 24)).st hb
  have hB := (((Below.refl _ w).alloc (Nat.le_refl _) (.cells #[wv h, wv l] 24)).alloc (by simp) (.cells #[.int .u64 0, .int .u64 0, .int .u64 0, .int .u64 0] 30)).trans (hb.mono (by simp; omega))
  have c0 := hB2.cell 0
  have c1 := hB2.cell 1
  have c2 := hB2.cell 2
  have c3 := hB2.cell 3
  have f0 := hB2.frozen 0
  have f1 := hB2.frozen 1
  have f2 := hB2.frozen 2
  have f3 := hB2.frozen 3
  have hE := ((((hB2.set1 0 (wv x0)).set1 1 (wv x1)).set1 2 (wv x2)).set1 3 (wv x3))
  have HE := Lib.hid hE
  have HBL := Lib.hid ((((hB.setCell (p := ⟨w.heap.size + 1, 0, none⟩) (by simp) (wv x0)).setCell (p := ⟨w.heap.size + 1, 1, none⟩) (by simp) (wv x1)).setCell (p := ⟨w.heap.size + 1, 2, none⟩) (by simp) (wv x2)).setCell (p := ⟨w.heap.size + 1, 3, none⟩) (by simp) (wv x3))
  clear hE hb hB hB2
  go_wp2_with fail
  have e0 := HE.out.cell 0
  have e1 := HE.out.cell 1
  have e2 := HE.out.cell 2
  have e3 := HE.out.cell 3
  exact bodyPost_ret (v := .agg #[wv x0, wv x1, wv x2, wv x3]) (by simp [results, Tryd.results29, go_sem, e0, e1, e2, e3]) rfl ⟨rfl, HBL.out⟩

theorem ret_int {k : IntKind} {a b : Int} (h : a = b) : Ending.returned (.int k a) = .returned (.int k b) := by rw [h]
def lexI (x y : Nat) (r : Int) : Int := if x < y then -1 else if y < x then 1 else r
theorem lexI_lt {x y : Nat} {r : Int} (h : x < y) : lexI x y r = -1 := by unfold lexI; rw [if_pos h]
theorem lexI_gt {x y : Nat} {r : Int} (h : y < x) : lexI x y r = 1 := by unfold lexI; rw [if_neg (by omega), if_pos h]
theorem lexI_eq {x : Nat} {r : Int} : lexI x x r = r := by unfold lexI; rw [if_neg (by omega), if_neg (by omega)]
theorem cmp_lex {N M : Nat} (hN : N < P128) (hM : M < P128) : cmpI N M = lexI (q3 N) (q3 M) (lexI (q2 N) (q2 M) (lexI (q1 N) (q1 M) (lexI (q0 N) (q0 M) 0))) := by
  have a0 := q0_lt N
  have a1 := q1_lt N
  have a2 := q2_lt N
  have b0 := q0_lt M
  have b1 := q1_lt M
  have b2 := q2_lt M
  have eN := q_eq N
  have eM := q_eq M
  generalize q0 N = x0 at *
  generalize q1 N = x1 at *
  generalize q2 N = x2 at *
  generalize q3 N = x3 at *
  generalize q0 M = y0 at *
  generalize q1 M = y1 at *
  generalize q2 M = y2 at *
  generalize q3 M = y3 at *
  unfold cmpI lexI
  split
  · rw [if_neg (by omega), if_neg (by omega), if_neg (by omega), if_neg (by omega), if_neg (by omega), if_neg (by omega), if_neg (by omega), if_neg (by omega)]
  · split
    · by_cases h3 : x3 < y3
      · rw [if_pos h3]
      · rw [if_neg h3, if_neg (by omega)]
        by_cases h2 : x2 < y2
        · rw [if_pos h2]
        · rw [if_neg h2, if_neg (by omega)]
          by_cases h1 : x1 < y1
          · rw [if_pos h1]
          · rw [if_neg h1, if_neg (by omega), if_pos (by omega)]
    · by_cases h3 : y3 < x3
      · rw [if_neg (by omega), if_pos h3]
      · rw [if_neg (by omega), if_neg h3]
        by_cases h2 : y2 < x2
        · rw [if_neg (by omega), if_pos h2]
        · rw [if_neg (by omega), if_neg h2]
          by_cases h1 : y1 < x1
          · rw [if_neg (by omega), if_pos h1]
          · rw [if_neg (by omega), if_neg h1, if_neg (by omega), if_pos (by omega)]

def CmpR (x0 x1 x2 x3 y0 y1 y2 y3 : Nat) (C : Int) (i : Value) : Prop :=
  (i = .int .i64 0 ∧ C = lexI x3 y3 (lexI x2 y2 (lexI x1 y1 (lexI x0 y0 0)))) ∨ (i = .int .i64 1 ∧ C = lexI x2 y2 (lexI x1 y1 (lexI x0 y0 0))) ∨ (i = .int .i64 2 ∧ C = lexI x1 y1 (lexI x0 y0 0)) ∨ (i = .int .i64 3 ∧ C = lexI x0 y0 0) ∨ (i = .int .i64 4 ∧ C = 0)

set_option maxRecDepth 100000 in
set_option maxHeartbeats 2000000 in
theorem rcmp4 (x0 x1 x2 x3 y0 y1 y2 y3 : Nat) (C : Int) (hC : C = lexI x3 y3 (lexI x2 y2 (lexI x1 y1 (lexI x0 y0 0)))) (w : World) :
    Calls Tryd.prog 33 #[.agg #[wv x0, wv x1, wv x2, wv x3], .agg #[wv y0, wv y1, wv y2, wv y3]] w fun e w' => e = .returned (.int .i64 C) ∧ Below w.heap.size w w' := by
  have HC := Lib.hid hC
  clear hC
  go_enter Tryd.func33, Tryd.ntmps33
  go_wp2_with fail
  go_loopw [7] (fun i wr => CmpR x0 x1 x2 x3 y0 y1 y2 y3 C i ∧ Blk wr (w.heap.size + 1 + 1) 107 #[wv x3, wv x2, wv x1, wv x0] ∧ Blk wr (w.heap.size + 1 + 1 + 1) 107 #[wv y3, wv y2, wv y1, wv y0] ∧ Below w.heap.size w wr) (fun i _ => 4 - (intOf i).toNat)
  case atStart =>
    refine ⟨.inl ⟨rfl, HC.out⟩, ?_, ?_, ?_⟩
    · have := (Blk.new ((w.alloc (.cells #[wv x0, wv x1, wv x2, wv x3] 30)).alloc (.cells #[wv y0, wv y1, wv y2, wv y3] 30)) 107 #[wv x3, wv x2, wv x1, wv x0])
      rw [World.size_alloc, World.size_alloc] at this
      exact this.alloc _
    · have := (Blk.new (((w.alloc (.cells #[wv x0, wv x1, wv x2, wv x3] 30)).alloc (.cells #[wv y0, wv y1, wv y2, wv y3] 30)).alloc (.cells #[wv x3, wv x2, wv x1, wv x0] 107)) 107 #[wv y3, wv y2, wv y1, wv y0])
      rw [World.size_alloc, World.size_alloc, World.size_alloc] at this
      exact this
    · exact ((((Below.refl _ w).alloc (Nat.le_refl _) _).alloc (by simp) _).alloc (by simp; omega) _).alloc (by simp; omega) _
  case round =>
    obtain ⟨hc, hb5, hb6, hB⟩ := hrel
    have HB := Lib.hid hB
    have H5 := Lib.hid hb5
    have H6 := Lib.hid hb6
    have c0 := hb5.cell 0
    have c1 := hb5.cell 1
    have c2 := hb5.cell 2
    have c3 := hb5.cell 3
    have d0 := hb6.cell 0
    have d1 := hb6.cell 1
    have d2 := hb6.cell 2
    have d3 := hb6.cell 3
    clear HC hB hb5 hb6
    unfold CmpR at hc
    rcases hc with ⟨rfl, hc⟩ | ⟨rfl, hc⟩ | ⟨rfl, hc⟩ | ⟨rfl, hc⟩ | ⟨rfl, hc⟩
    · rcases Nat.lt_trichotomy x3 y3 with h | h | h
      · rw [lexI_lt h] at hc
        have t1 : decide (x3 < y3) = true := by simpa using h
        have HC := Lib.hid hc
        clear hc h
        go_wp2_with fail
        go_quiet (fail)
        go_wp2_with fail
        go_ret
        exact ⟨ret_int HC.out.symm, below_drewN HB.out _⟩
      · subst h
        rw [lexI_eq] at hc
        have t1 : decide (x3 < x3) = false := by simp
        have HC := Lib.hid hc
        clear hc
        go_wp2_with fail
        go_quiet (fail)
        go_wp2_with fail
        go_quiet (fail)
        go_wp2_with fail
        go_roundw
        case rel => exact ⟨by unfold CmpR; rw [← HC.out]; simp, H5.out.drewN _, H6.out.drewN _, below_drewN HB.out _⟩
        case measure => simp [intOf]
      · rw [lexI_gt h] at hc
        have t1 : decide (x3 < y3) = false := by simp; omega
        have t2 : decide (y3 < x3) = true := by simpa using h
        have HC := Lib.hid hc
        clear hc h
        go_wp2_with fail
        go_quiet (fail)
        go_wp2_with fail
        go_quiet (fail)
        go_wp2_with fail
        go_ret
        exact ⟨ret_int HC.out.symm, below_drewN (below_drewN HB.out _) _⟩
    · rcases Nat.lt_trichotomy x2 y2 with h | h | h
      · rw [lexI_lt h] at hc
        have t1 : decide (x2 < y2) = true := by simpa using h
        have HC := Lib.hid hc
        clear hc h
        go_wp2_with fail
        go_quiet (fail)
        go_wp2_with fail
        go_ret
        exact ⟨ret_int HC.out.symm, below_drewN HB.out _⟩
      · subst h
        rw [lexI_eq] at hc
        have t1 : decide (x2 < x2) = false := by simp
        have HC := Lib.hid hc
        clear hc
        go_wp2_with fail
        go_quiet (fail)
        go_wp2_with fail
        go_quiet (fail)
        go_wp2_with fail
        go_roundw
        case rel => exact ⟨by unfold CmpR; rw [← HC.out]; simp, H5.out.drewN _, H6.out.drewN _, below_drewN HB.out _⟩
        case measure => simp [intOf]
      · rw [lexI_gt h] at hc
        have t1 : decide (x2 < y2) = false := by simp; omega
        have t2 : decide (y2 < x2) = true := by simpa using h
        have HC := Lib.hid hc
        clear hc h
        go_wp2_with fail
        go_quiet (fail)
        go_wp2_with fail
        go_quiet (fail)
        go_wp2_with fail
        go_ret
        exact ⟨ret_int HC.out.symm, below_drewN (below_drewN HB.out _) _⟩
    · rcases Nat.lt_trichotomy x1 y1 with h | h | h
      · rw [lexI_lt h] at hc
        have t1 : decide (x1 < y1) = true := by simpa using h
        have HC := Lib.hid hc
        clear hc h
        go_wp2_with fail
        go_quiet (fail)
        go_wp2_with fail
        go_ret
        exact ⟨ret_int HC.out.symm, below_drewN HB.out _⟩
      · subst h
        rw [lexI_eq] at hc
        have t1 : decide (x1 < x1) = false := by simp
        have HC := Lib.hid hc
        clear hc
        go_wp2_with fail
        go_quiet (fail)
        go_wp2_with fail
        go_quiet (fail)
        go_wp2_with fail
        go_roundw
        case rel => exact ⟨by unfold CmpR; rw [← HC.out]; simp, H5.out.drewN _, H6.out.drewN _, below_drewN HB.out _⟩
        case measure => simp [intOf]
      · rw [lexI_gt h] at hc
        have t1 : decide (x1 < y1) = false := by simp; omega
        have t2 : decide (y1 < x1) = true := by simpa using h
        have HC := Lib.hid hc
        clear hc h
        go_wp2_with fail
        go_quiet (fail)
        go_wp2_with fail
        go_quiet (fail)
        go_wp2_with fail
        go_ret
        exact ⟨ret_int HC.out.symm, below_drewN (below_drewN HB.out _) _⟩
    · rcases Nat.lt_trichotomy x0 y0 with h | h | h
      · rw [lexI_lt h] at hc
        have t1 : decide (x0 < y0) = true := by simpa using h
        have HC := Lib.hid hc
        clear hc h
        go_wp2_with fail
        go_quiet (fail)
        go_wp2_with fail
        go_ret
        exact ⟨ret_int HC.out.symm, below_drewN HB.out _⟩
      · subst h
        rw [lexI_eq] at hc
        have t1 : decide (x0 < x0) = false := by simp
        have HC := Lib.hid hc
        clear hc
        go_wp2_with fail
        go_quiet (fail)
        go_wp2_with fail
        go_quiet (fail)
        go_wp2_with fail
        go_roundw
        case rel => exact ⟨by unfold CmpR; rw [← HC.out]; simp, H5.out.drewN _, H6.out.drewN _, below_drewN HB.out _⟩
        case measure => simp [intOf]
      · rw [lexI_gt h] at hc
        have t1 : decide (x0 < y0) = false := by simp; omega
        have t2 : decide (y0 < x0) = true := by simpa using h
        have HC := Lib.hid hc
        clear hc h
        go_wp2_with fail
        go_quiet (fail)
        go_wp2_with fail
        go_quiet (fail)
        go_wp2_with fail
        go_ret
        exact ⟨ret_int HC.out.symm, below_drewN (below_drewN HB.out _) _⟩
    · have HC := Lib.hid hc
      clear hc
      go_wp2_with fail
      go_ret
      exact ⟨ret_int HC.out.symm, HB.out⟩

theorem rcmp_any (N M : Nat) (hN : N < P128) (hM : M < P128) (w : World) :
    Calls Tryd.prog 33 #[fv N, fv M] w fun e w' => e = .returned (.int .i64 (cmpI N M)) ∧ Below w.heap.size w w' :=
  rcmp4 _ _ _ _ _ _ _ _ _ (cmp_lex hN hM) w
end Go.Proofs.YtnghcpgdfkchdaaDoor
