/- The contracts of utf.Feeder's take. -/
import Derived.Test.YtmdgopclcdmenaaUtfH
import Derived.Test.YtmdgopclcdmenaaUtfC
import Derived.Deep.RegionHeld3
import Derived.Deep.RegionLaw
import Derived.Deep.DrawnRows
import Derived.BigRegion
import Derived.IntWalk
namespace Go.Proofs.Ytmdgopclcdmenaa
open Go.RowKit
set_option linter.unusedSimpArgs false
set_option linter.unusedVariables false
attribute [local go_sem ↓] Go.wp_at_zero Go.wp_at_succ

/-- What take does. -/
def TakePost (b : Nat) (f : Fd) (c : UInt8) (w : World) (e : Ending) (w' : World) : Prop :=
  (∀ h, tk f.held c = some h → e = .returned (.bool true) ∧ FB w' b ⟨f.place, h, f.bad⟩) ∧ (tk f.held c = none → e = .returned (.bool false) ∧ FB w' b f) ∧ But w.heap.size b w w'

set_option maxRecDepth 100000 in
set_option maxHeartbeats 1000000 in
theorem take_nil (b : Nat) (f : Fd) (c : UInt8) (w : World) (hf : FB w b f) (hh : f.held = []) :
    Calls Try.prog 49 #[.pointer (some ⟨b, 0, none⟩), bv c] w (TakePost b f c w) := by
  obtain ⟨hs, h1, h2, h3, hk⟩ := hf
  rw [hh] at h2 h3 hk
  have hblt := hk.lt
  have hz : (([] : List UInt8).length : Nat) = 0 := rfl
  rw [hz] at hk
  have c2 := hk.cell 5
  rw [(fcells_m _ _ _ _ h1).1] at c2
  obtain ⟨x0, c1⟩ : ∃ x0, w.cell? ⟨b, 1, none⟩ = some (bv x0) := ⟨hs[0], (hk.cell 1).trans (fcells_h _ _ _ _ 0 (by omega))⟩
  have f1 := hk.frozen 1
  have f5 := hk.frozen 5
  have HK := Lib.hid hk
  have HF := Lib.hid (fun W => formOf_any c.toNat W (UInt8.toNat_lt c))
  unfold formV at HF
  have HH := Lib.hid hh
  have H1 := Lib.hid h1
  clear h1 h2 h3 hk hh hz
  by_cases h0 : wd c.toNat = 0
  · have ht : tk f.held c = none := by rw [HH.out]; simp [tk, h0]
    have HT := Lib.hid ht
    rw [h0] at HF
    clear ht h0
    generalize flo c.toNat = l at *
    generalize fhi c.toNat = h at *
    go_enter Try.func49, Try.ntmps49
    go_wp2_with (go_at_call 47; (with_reducible refine (HF.out _).mono ?_); rintro e w1 ⟨rfl, hb1⟩)
    go_ret
    have hbel : Below w.heap.size w (w1.alloc (.cells #[.int .i64 0, .int .u8 l, .int .u8 h] 80)) := hb1.alloc hb1.size _
    exact ⟨(fun h he => by rw [HT.out] at he; cases he), fun _ => ⟨rfl, ⟨hs, H1.out, by rw [HH.out]; rfl, by rw [HH.out]; decide, by rw [HH.out]; exact HK.out.below hbel hblt⟩⟩, But.of_below hbel⟩
  · by_cases h1 : wd c.toNat = 1
    · have ht : tk f.held c = some [] := by rw [HH.out]; simp [tk, h0, h1]
      have HT := Lib.hid ht
      rw [h1] at HF
      clear ht h0 h1
      generalize flo c.toNat = l at *
      generalize fhi c.toNat = h at *
      go_enter Try.func49, Try.ntmps49
      go_wp2_with (go_at_call 47; (with_reducible refine (HF.out _).mono ?_); rintro e w1 ⟨rfl, hb1⟩)
      go_ret
      have hbel : Below w.heap.size w (w1.alloc (.cells #[.int .i64 1, .int .u8 l, .int .u8 h] 80)) := hb1.alloc hb1.size _
      refine ⟨fun h' he => ?_, (fun he => by rw [HT.out] at he; cases he), But.of_below hbel⟩
      rw [HT.out] at he
      injection he with he
      subst he
      exact ⟨rfl, ⟨hs, H1.out, rfl, (show (0 : Nat) < 4 by decide), HK.out.below hbel hblt⟩⟩
    · have ht : tk f.held c = some [c] := by rw [HH.out]; simp [tk, h0, h1]
      have HT := Lib.hid ht
      have hn : 2 ≤ wd c.toNat := by omega
      have hn4 := wd_le c.toNat
      have z0 : ((wd c.toNat : Int) == 0) = false := by simp; omega
      clear ht h0 h1
      generalize wd c.toNat = n at *
      generalize flo c.toNat = l at *
      generalize fhi c.toNat = h at *
      go_enter Try.func49, Try.ntmps49
      go_wp2_with (go_at_call 47; (with_reducible refine (HF.out _).mono ?_); rintro e w1 ⟨rfl, hb1⟩; have q1 := keepc hb1 hblt c1; have q5 := keepc hb1 hblt c2; have p1 := keepf hb1 hblt f1; have p5 := keepf hb1 hblt f5; have hblt1 := keepz hb1 hblt)
      go_ret
      have hk2 := HK.out.below hb1 hblt
      refine ⟨fun h' he => ?_, (fun he => by rw [HT.out] at he; cases he), (((But.of_below hb1).setCell (p := ⟨b, 1, none⟩) (.inl rfl) _).setCell (p := ⟨b, 5, none⟩) (.inl rfl) _).alloc (by simp; exact hb1.size) _⟩
      rw [HT.out] at he
      injection he with he
      subst he
      have hk3 := ((hk2.set1 (1 + 0) (bv c)).set1 5 (.int .i64 ((1 : Nat) : Int))).alloc (.cells #[.int .i64 n, .int .u8 l, .int .u8 h] 80)
      rw [fcells_seth _ _ _ _ 0 (by rw [H1.out]; decide), fcells_setm _ _ _ _ _ (by rw [List.length_set]; exact H1.out)] at hk3
      refine ⟨rfl, ⟨hs.set 0 c, by rw [List.length_set]; exact H1.out, ?_, (show (1 : Nat) < 4 by decide), hk3⟩⟩
      obtain ⟨x, y, rfl⟩ : ∃ x y, hs = x :: y := by
        cases hs with
        | nil => have := H1.out; simp at this
        | cons x y => exact ⟨x, y, rfl⟩
      simp

theorem tk_cons (a : UInt8) (l : List UInt8) (c : UInt8) : tk (a :: l) c = if okb a.toNat (l.length + 1) c.toNat = true then (if l.length + 2 = wd a.toNat then some [] else some (a :: l ++ [c])) else none := rfl

set_option maxRecDepth 100000 in
set_option maxHeartbeats 2000000 in
theorem take_cons (b : Nat) (f : Fd) (a : UInt8) (l : List UInt8) (c : UInt8) (w : World) (hf : FB w b f) (hh : f.held = a :: l) (hok : l.length + 1 < wd a.toNat) :
    Calls Try.prog 49 #[.pointer (some ⟨b, 0, none⟩), bv c] w (TakePost b f c w) := by
  obtain ⟨hs, h1, h2, h3, hk⟩ := hf
  rw [hh] at h2 h3 hk
  have hblt := hk.lt
  obtain ⟨m, hm⟩ : ∃ m, m = l.length + 1 := ⟨_, rfl⟩
  have hml : (a :: l).length = m := by rw [hm]; rfl
  rw [hml] at h2 h3 hk
  rw [← hm] at hok
  have c2 := hk.cell 5
  rw [(fcells_m _ _ _ _ h1).1] at c2
  have c1 : w.cell? ⟨b, 1, none⟩ = some (bv a) := by
    have := (hk.cell 1).trans (fcells_h _ _ _ _ 0 (by omega))
    have e : hs[0]'(by omega) = a := by
      have h4 := congrArg (fun x => x[0]?) h2
      simp only [List.getElem?_take, List.getElem?_cons_zero] at h4
      rw [if_pos (by omega), List.getElem?_eq_getElem (by omega)] at h4
      injection h4
    rw [e] at this
    exact this
  obtain ⟨x0, cm⟩ : ∃ x0, w.cell? ⟨b, 1 + m, none⟩ = some (bv x0) := ⟨hs[m]'(by omega), (hk.cell (1 + m)).trans (fcells_h _ _ _ _ m (by omega))⟩
  have fm := hk.frozen (1 + m)
  have f5 := hk.frozen 5
  have HK := Lib.hid hk
  have HF := Lib.hid (fun W => formOf_any a.toNat W (UInt8.toNat_lt a))
  unfold formV at HF
  have HH := Lib.hid hh
  have H1 := Lib.hid h1
  have H2 := Lib.hid h2
  have hn4 := wd_le a.toNat
  have hmb := mayB_ok a.toNat m c.toNat (by omega)
  have hff := f256 a.toNat
  have htk := tk_cons a l c
  rw [← hm, show l.length + 2 = m + 1 by omega] at htk
  have HMY := Lib.hid (fun n W => may_any n (flo a.toNat) (fhi a.toNat) m c.toNat W hff.1 hff.2 (UInt8.toNat_lt c) (by omega))
  have hm0 : ((m : Int) == 0) = false := by simp; omega
  have hm4 : (m : Int) < 4 := by omega
  have hmp : (0 : Int) ≤ m := by omega
  have HM := Lib.hid hm
  have HML := Lib.hid hml
  clear h1 h2 hk hh hff hm hml
  generalize wd a.toNat = n at *
  generalize flo a.toNat = lo0 at *
  generalize fhi a.toNat = hi0 at *
  by_cases hkb : okb a.toNat m c.toNat = true
  · rw [hkb] at hmb htk
    rw [if_pos rfl] at htk
    rw [hmb] at HMY
    have HT := Lib.hid htk
    clear hkb hmb htk
    by_cases hend : m + 1 = n
    · have e1 : ((m : Int) + 1 == n) = true := by simp; omega
      go_enter Try.func49, Try.ntmps49
      go_wp2_with (go_at_call 47; (with_reducible refine (HF.out _).mono ?_); rintro e w1 ⟨rfl, hb1⟩; have q1 := keepc hb1 hblt c1; have q5 := keepc hb1 hblt c2; have p5 := keepf hb1 hblt f5; have hblt1 := keepz hb1 hblt)
      go_region_held3 (fun w' => w'.cell? ⟨w1.heap.size, 0, none⟩ = some (.int .i64 n) ∧ w'.cell? ⟨w1.heap.size, 1, none⟩ = some (.int .u8 lo0) ∧ w'.cell? ⟨w1.heap.size, 2, none⟩ = some (.int .u8 hi0) ∧ w'.cell? ⟨b, 5, none⟩ = some (.int .i64 m))
        (first | (go_keep; done) | exact ⟨keepc hb2 (by simp) (by go_keep), keepc hb2 (by simp) (by go_keep), keepc hb2 (by simp) (by go_keep), keepc hb2 (by simp; omega) (by go_keep)⟩)
        (first
          | (go_at_call 48; refine (HMY.out _ _).mono ?_; rintro e w2 ⟨rfl, hb2⟩))
      have hbel : Below w.heap.size w w2 := keepb ((hb1.alloc hb1.size _).drew) hb2
      have HBE := Lib.hid hbel
      have HB2 := Lib.hid hb2
      have r0 : w2.cell? ⟨w1.heap.size, 0, none⟩ = some (.int .i64 n) := keepc hb2 (by simp) (by go_keep)
      have r5 := keepc hbel hblt c2
      have rm := keepc hbel hblt cm
      have s5 := keepf hbel hblt f5
      have sm := keepf hbel hblt fm
      have hlt2 := keepz hbel hblt
      have hne : b ≠ w1.heap.size := by omega
      have hne' : w1.heap.size ≠ b := by omega
      have n3 : ¬ m = 4 := by omega
      clear c1 c2 cm f5 fm hb1 hb2 hbel q1 q5 p5
      go_wp2
      go_region
      go_wp2
      go_region
      go_wp2
      go_ret
      refine ⟨fun h he => ?_, (fun he => by rw [HH.out, HT.out, if_pos hend] at he; cases he), ?_⟩
      · rw [HH.out, HT.out, if_pos hend] at he
        injection he with he
        subst he
        refine ⟨rfl, hs.set m c, by rw [List.length_set]; exact H1.out, rfl, (show (0 : Nat) < 4 by decide), ?_⟩
        have h5 := (((HK.out.below HBE.out hblt).set1 (1 + m) (bv c)).set1 5 (.int .i64 ((m + 1 : Nat) : Int))).set1 5 (.int .i64 ((0 : Nat) : Int))
        rw [fcells_seth _ _ _ _ m (by rw [H1.out]; exact h3), fcells_setm _ _ _ _ _ (by rw [List.length_set]; exact H1.out), fcells_setm _ _ _ _ _ (by rw [List.length_set]; exact H1.out)] at h5
        exact h5
      · exact ((((But.of_below HBE.out).setCell (p := ⟨b, 1 + m, none⟩) (.inl rfl) _).setCell (p := ⟨b, 5, none⟩) (.inl rfl) _).setCell (p := ⟨b, 5, none⟩) (.inl rfl) _).drew.drew
    · have e1 : ((m : Int) + 1 == n) = false := by simp; omega
      go_enter Try.func49, Try.ntmps49
      go_wp2_with (go_at_call 47; (with_reducible refine (HF.out _).mono ?_); rintro e w1 ⟨rfl, hb1⟩; have q1 := keepc hb1 hblt c1; have q5 := keepc hb1 hblt c2; have p5 := keepf hb1 hblt f5; have hblt1 := keepz hb1 hblt)
      go_region_held3 (fun w' => w'.cell? ⟨w1.heap.size, 0, none⟩ = some (.int .i64 n) ∧ w'.cell? ⟨w1.heap.size, 1, none⟩ = some (.int .u8 lo0) ∧ w'.cell? ⟨w1.heap.size, 2, none⟩ = some (.int .u8 hi0) ∧ w'.cell? ⟨b, 5, none⟩ = some (.int .i64 m))
        (first | (go_keep; done) | exact ⟨keepc hb2 (by simp) (by go_keep), keepc hb2 (by simp) (by go_keep), keepc hb2 (by simp) (by go_keep), keepc hb2 (by simp; omega) (by go_keep)⟩)
        (first
          | (go_at_call 48; refine (HMY.out _ _).mono ?_; rintro e w2 ⟨rfl, hb2⟩))
      have hbel : Below w.heap.size w w2 := keepb ((hb1.alloc hb1.size _).drew) hb2
      have HBE := Lib.hid hbel
      have HB2 := Lib.hid hb2
      have r0 : w2.cell? ⟨w1.heap.size, 0, none⟩ = some (.int .i64 n) := keepc hb2 (by simp) (by go_keep)
      have r5 := keepc hbel hblt c2
      have rm := keepc hbel hblt cm
      have s5 := keepf hbel hblt f5
      have sm := keepf hbel hblt fm
      have hlt2 := keepz hbel hblt
      have hne : b ≠ w1.heap.size := by omega
      have hne' : w1.heap.size ≠ b := by omega
      have n3 : ¬ m = 4 := by omega
      clear c1 c2 cm f5 fm hb1 hb2 hbel q1 q5 p5
      go_wp2
      go_region
      go_wp2
      go_region
      go_wp2
      go_ret
      refine ⟨fun h he => ?_, (fun he => by rw [HH.out, HT.out, if_neg hend] at he; cases he), ?_⟩
      · rw [HH.out, HT.out, if_neg hend] at he
        injection he with he
        subst he
        have hml1 : (a :: l ++ [c]).length = m + 1 := by rw [List.length_append, HML.out]; rfl
        refine ⟨rfl, hs.set m c, by rw [List.length_set]; exact H1.out, ?_, ?_, ?_⟩
        · show (hs.set m c).take (a :: l ++ [c]).length = a :: l ++ [c]
          rw [hml1, List.take_succ_eq_append_getElem (by rw [List.length_set, H1.out]; exact h3), List.take_set_of_le (Nat.le_refl _), H2.out]
          simp
        · show (a :: l ++ [c]).length < 4
          rw [hml1]; omega
        · show Blk _ _ _ (fcells f.place (hs.set m c) (a :: l ++ [c]).length f.bad)
          rw [hml1]
          have h5 := ((HK.out.below HBE.out hblt).set1 (1 + m) (bv c)).set1 5 (.int .i64 ((m + 1 : Nat) : Int))
          rw [fcells_seth _ _ _ _ m (by rw [H1.out]; exact h3), fcells_setm _ _ _ _ _ (by rw [List.length_set]; exact H1.out)] at h5
          exact h5
      · exact (((But.of_below HBE.out).setCell (p := ⟨b, 1 + m, none⟩) (.inl rfl) _).setCell (p := ⟨b, 5, none⟩) (.inl rfl) _).drew.drew
  · have hkb' : okb a.toNat m c.toNat = false := by simpa using hkb
    rw [hkb'] at hmb htk
    rw [if_neg (by decide)] at htk
    rw [hmb] at HMY
    have HT := Lib.hid htk
    clear hkb hkb' hmb htk
    go_enter Try.func49, Try.ntmps49
    go_wp2_with (go_at_call 47; (with_reducible refine (HF.out _).mono ?_); rintro e w1 ⟨rfl, hb1⟩; have q1 := keepc hb1 hblt c1; have q5 := keepc hb1 hblt c2; have p5 := keepf hb1 hblt f5; have hblt1 := keepz hb1 hblt)
    go_region_held3 (fun w' => w'.cell? ⟨w1.heap.size, 0, none⟩ = some (.int .i64 n) ∧ w'.cell? ⟨w1.heap.size, 1, none⟩ = some (.int .u8 lo0) ∧ w'.cell? ⟨w1.heap.size, 2, none⟩ = some (.int .u8 hi0) ∧ w'.cell? ⟨b, 5, none⟩ = some (.int .i64 m))
      (first | (go_keep; done) | exact ⟨keepc hb2 (by simp) (by go_keep), keepc hb2 (by simp) (by go_keep), keepc hb2 (by simp) (by go_keep), keepc hb2 (by simp; omega) (by go_keep)⟩)
      (first
        | (go_at_call 48; refine (HMY.out _ _).mono ?_; rintro e w2 ⟨rfl, hb2⟩))
    go_wp2
    go_ret
    have hbel : Below w.heap.size w w2 := keepb ((hb1.alloc hb1.size _).drew) hb2
    refine ⟨fun h he => ?_, fun _ => ⟨rfl, ⟨hs, H1.out, ?_, ?_, ?_⟩⟩, But.of_below hbel⟩
    · rw [HH.out, HT.out] at he; cases he
    · rw [HH.out, HML.out]; exact H2.out
    · rw [HH.out, HML.out]; exact h3
    · rw [HH.out, HML.out]; exact HK.out.below hbel hblt

theorem take_any (b : Nat) (f : Fd) (c : UInt8) (w : World) (hf : FB w b f) (hok : Fok f) :
    Calls Try.prog 49 #[.pointer (some ⟨b, 0, none⟩), bv c] w (TakePost b f c w) := by
  cases hh : f.held with
  | nil => exact take_nil b f c w hf hh
  | cons a l =>
    refine take_cons b f a l c w hf hh ?_
    unfold Fok at hok
    rw [hh] at hok
    exact hok
end Go.Proofs.Ytmdgopclcdmenaa
