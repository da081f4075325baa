/- The contracts of the law's stands and total. -/
import Derived.Test.YtmdgopclcdmenaaUtfK
import Derived.Test.YtmdgopclcdmenaaUtfG
import Derived.Test.YtmdgopclcdmenaaUtfI
import Derived.Test.YtmdgopclcdmenaaPieces
namespace Go.Proofs.Ytmdgopclcdmenaa
open Go.RowKit
set_option linter.unusedSimpArgs false
set_option linter.unusedVariables false

theorem wrong_cases (s : List UInt8) : ((frun fini s).bad = true ∧ wrong s = (30, (frun fini s).place) ∧ (frun fini s).held = [] ∧ (frun fini s).place < s.length) ∨
    ((frun fini s).bad = false ∧ (frun fini s).place = s.length ∧ (frun fini s).held.length = heldF s 0 ∧ (wrong s = (0, 0) ∨ wrong s = (31, s.length))) := by
  cases hb : (frun fini s).bad with
  | true => obtain ⟨h1, h2, h3⟩ := fd_bad s hb; exact .inl ⟨rfl, h1, h2, h3⟩
  | false =>
    obtain ⟨h1, h2, h3⟩ := fd_good s hb
    refine .inr ⟨rfl, h1, h2, ?_⟩
    by_cases hh : (frun fini s).held = []
    · rw [if_pos hh] at h3; exact .inl h3
    · rw [if_neg hh] at h3; exact .inr h3

set_option maxRecDepth 100000 in
set_option maxHeartbeats 1000000 in
theorem stands_yes (b : Nat) (A : Option Addr) (n c B : Nat) (bs : List UInt8) (w : World) (hf : FB w b (frun fini bs)) (h : RB w B A n bs) (hB : B ≤ w.heap.size) (hn : n ≤ 1000000000000000) :
    Calls Try.prog 35 #[.pointer (some ⟨b, 0, none⟩), .slice A n c] w fun e w' => e = .returned (.bool true) ∧ Below w.heap.size w w' := by
  have hl := h.1
  subst hl
  have hks := fun W (hW : RB W B A bs.length bs) => str_of_RB hW c
  have k0 := hks w h
  have HF := Lib.hid hf
  have HR := Lib.hid h
  have hlt := hf.lt
  have HW := Lib.hid (fun W => rwrong_any bs W hn)
  have HH := Lib.hid (fun W => rheld_any bs W hn)
  have HT := Lib.hid (fun W => tells_any (wrong bs).1 (wrong bs).2 (wrongV bs) W rfl)
  have HE := Lib.hid (fun W (hW : FB W b (frun fini bs)) => end_any b (frun fini bs) W hW)
  rw [endV_wrong] at HE
  have HP := Lib.hid (fun W (hW : FB W b (frun fini bs)) => place_of b (frun fini bs) W hW)
  have HQ := Lib.hid (fun W (hW : FB W b (frun fini bs)) => held_of b (frun fini bs) W hW)
  rcases wrong_cases bs with ⟨h1, h2, h3, h4⟩ | ⟨h1, h2, h3, h4⟩
  · rw [h2] at HW HT
    rw [h3] at HQ
    simp only at HW HT
    have hpp : (((frun fini bs).place : Int) == ((frun fini bs).place : Int)) = true := by simp
    clear h1 h2 h3 h4 hf h hks
    generalize wrongV bs = v at *
    generalize frun fini bs = s at *
    generalize heldF bs 0 = hd at *
    go_enter Try.func35, Try.ntmps35
    go_wp2_with fail
    refine (HW.out _).mono ?_
    rintro e w' ⟨rfl, rfl⟩
    go_wp2_with fail
    refine (HH.out _).mono ?_
    rintro e w' ⟨rfl, rfl⟩
    go_wp2_with fail
    refine (HP.out _ HF.out).mono ?_
    rintro e w' ⟨rfl, rfl⟩
    go_wp2_with fail
    refine (HQ.out _ HF.out).mono ?_
    rintro e w' ⟨rfl, rfl⟩
    go_wp2_with fail
    refine (HE.out _ HF.out).mono ?_
    rintro e w' ⟨rfl, rfl⟩
    go_wp2_with fail
    refine (HT.out _).mono ?_
    rintro e w1 ⟨rfl, hb1⟩
    have HB1 := Lib.hid hb1
    clear hb1
    go_wp2_with fail
    refine (HE.out _ (HF.out.below HB1.out hlt)).mono ?_
    rintro e w' ⟨rfl, rfl⟩
    go_wp2_with fail
    refine (HT.out _).mono ?_
    rintro e w2 ⟨rfl, hb2⟩
    have HB2 := Lib.hid hb2
    clear hb2
    go_wp2_with fail
    go_ret
    exact ⟨rfl, keepb HB1.out HB2.out⟩
  · have hn30 : (((wrong bs).1 : Int) == 30) = false := by
      rcases h4 with h4 | h4 <;> rw [h4] <;> rfl
    rw [h2] at HP
    rw [h3] at HQ
    have hpp : ((bs.length : Int) == (bs.length : Int)) = true := by simp
    have hhh : ((heldF bs 0 : Int) == (heldF bs 0 : Int)) = true := by simp
    clear h1 h2 h3 h4 hf h hks
    generalize wrongV bs = v at *
    generalize frun fini bs = s at *
    generalize heldF bs 0 = hd at *
    generalize (wrong bs).1 = x at *
    generalize (wrong bs).2 = y at *
    go_enter Try.func35, Try.ntmps35
    go_wp2_with fail
    refine (HW.out _).mono ?_
    rintro e w' ⟨rfl, rfl⟩
    go_wp2_with fail
    refine (HH.out _).mono ?_
    rintro e w' ⟨rfl, rfl⟩
    go_wp2_with fail
    refine (HP.out _ HF.out).mono ?_
    rintro e w' ⟨rfl, rfl⟩
    go_wp2_with fail
    refine (HQ.out _ HF.out).mono ?_
    rintro e w' ⟨rfl, rfl⟩
    go_wp2_with fail
    refine (HE.out _ HF.out).mono ?_
    rintro e w' ⟨rfl, rfl⟩
    go_wp2_with fail
    refine (HT.out _).mono ?_
    rintro e w1 ⟨rfl, hb1⟩
    have HB1 := Lib.hid hb1
    clear hb1
    go_wp2_with fail
    refine (HE.out _ (HF.out.below HB1.out hlt)).mono ?_
    rintro e w' ⟨rfl, rfl⟩
    go_wp2_with fail
    refine (HT.out _).mono ?_
    rintro e w2 ⟨rfl, hb2⟩
    have HB2 := Lib.hid hb2
    clear hb2
    go_wp2_with fail
    go_ret
    exact ⟨rfl, keepb HB1.out HB2.out⟩
theorem FB.but {w w' : World} {B b b' : Nat} {f : Fd} (h : FB w b f) (hb : But B b' w w') (hlt : b < B) (hne : b ≠ b') : FB w' b f := by
  obtain ⟨hs, h1, h2, h3, hk⟩ := h
  exact ⟨hs, h1, h2, h3, (hb.block b hlt hne).trans hk⟩
theorem RB.cutA {w : World} {B n c k j : Nat} {A : Option Addr} {bs : List UInt8} (h : RB w B A n bs) (hn : n ≤ c) (hk : k + j ≤ n) : RB w B (if c = k then A else Option.map (fun x => x.add k) A) j ((bs.drop k).take j) := by
  have hl := h.1
  refine ⟨by simp; omega, fun hj => ?_⟩
  rw [if_neg (by omega)]
  obtain ⟨g, o, rfl, hg, hc⟩ := h.2 (by omega)
  refine ⟨g, o + k, ?_, hg, fun i hi => ?_⟩
  · show some (Addr.add _ _) = _
    unfold Addr.add
    split <;> simp_all
  · have hi' : i < j := by simp at hi; omega
    rw [Nat.add_assoc, hc (k + i) (by omega)]
    simp

end Go.Proofs.Ytmdgopclcdmenaa
