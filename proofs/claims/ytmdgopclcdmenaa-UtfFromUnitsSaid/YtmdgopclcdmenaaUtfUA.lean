/- The contract of utf.Units. -/
import Derived.Test.YtmdgopclcdmenaaUtfZ
namespace Go.Proofs.Ytmdgopclcdmenaa
open Go.RowKit
set_option linter.unusedSimpArgs false
set_option linter.unusedVariables false

def okU : Value → Prop := fun u => ∃ m : Nat, u = uv_ m ∧ m < 65536
theorem units_no (s : List UInt8) (w : World) (hn : s.length ≤ 4294967296) (hr : right s = false) :
    Calls Try.prog 42 #[.string ⟨s.toArray⟩] w fun e w' => e = .returned (.tuple #[.slice none 0 0, spotE (wrong s).1 (wrong s).2]) ∧ Below w.heap.size w w' := by
  have hk := fun W => run_tobytes W s
  obtain ⟨l, hl1, hl2, hl3, hl4, hl5, hl6⟩ := newB w s (by omega)
  have hrb := hl5.rb s.length hl3
  rw [hl2] at hrb
  have HRB := Lib.hid hrb
  have HB := Lib.hid hl6
  have hlt := hl5.lt
  clear hl1 hl2 hl3 hl4 hl5 hl6 hrb
  have HV := Lib.hid (wrongV_not hr)
  clear hr
  generalize (wrong s).1 = x at *
  generalize (wrong s).2 = y at *
  go_enter Try.func42, Try.ntmps42
  go_wp2_with fail
  refine (check_any _ _ _ (w.heap.size + 1) s _ HRB.out hlt (by omega)).mono ?_
  rw [HV.out]
  rintro e w1 ⟨rfl, hb1⟩
  go_wp2_with fail
  go_ret2
  exact ⟨rfl, keepb HB.out hb1⟩

def UnitsOwn (s : List UInt8) (w : World) (e : Ending) (w' : World) : Prop :=
  ∃ A c, e = .returned (.tuple #[.slice A (unitsF s 0).length c, .nilIface]) ∧ OwnR w' w.heap.size 74 okU (.slice A (unitsF s 0).length c) (unitsF s 0).length ((unitsF s 0).map uv_) ∧ Below w.heap.size w w'

theorem flat_snoc (pre : List (Nat × Nat)) (i r : Nat) : ((pre ++ [(i, r)]).flatMap fun x => unitsOf x.2) = (pre.flatMap fun x => unitsOf x.2) ++ unitsOf r := by
  rw [List.flatMap_append]; simp

set_option maxRecDepth 100000 in
set_option maxHeartbeats 2000000 in
theorem units_yes (s : List UInt8) (w : World) (hn : s.length ≤ 4294967296) (hr : right s = true) :
    Calls Try.prog 42 #[.string ⟨s.toArray⟩] w (UnitsOwn s w) := by
  have hk := fun W => run_tobytes W s
  obtain ⟨l, hl1, hl2, hl3, hl4, hl5, hl6⟩ := newB w s (by omega)
  have hrb := hl5.rb s.length hl3
  rw [hl2] at hrb
  have HRB := Lib.hid hrb
  have HB := Lib.hid hl6
  have hlt := hl5.lt
  clear hl1 hl2 hl3 hl4 hl5 hl6 hrb
  have HV := Lib.hid (wrongV_right hr)
  have HOK := Lib.hid (right_ok hr)
  have hll := runesF_len s _ 0 rfl
  clear hr
  go_enter Try.func42, Try.ntmps42
  go_wp2_with fail
  refine (check_any _ _ _ (w.heap.size + 1) s _ HRB.out hlt (by omega)).mono ?_
  rw [HV.out]
  rintro e w1 ⟨rfl, hb1⟩
  have HB1 := Lib.hid (keepb HB.out hb1)
  have hs1 := HB1.out.size
  clear hb1
  go_wp2_with fail
  go_loopw [5] (fun u wr => ∃ (i : Nat) (pre : List (Nat × Nat)), i ≤ s.length ∧ runesF s 0 = pre ++ runesF s i ∧ wrongF s i = (0, 0) ∧
      OwnR wr (w1.heap.size + 1) 74 okU u (pre.flatMap fun x => unitsOf x.2).length ((pre.flatMap fun x => unitsOf x.2).map uv_) ∧ IsIt wr w1.heap.size ⟨s.toArray⟩ i ∧ Below w1.heap.size w1 wr) (fun _ wr => s.length - wr.iterPos w1.heap.size)
  case atStart => exact ⟨0, [], by omega, rfl, HOK.out, OwnR.nil _ _ _ _, IsIt.new _ _ _, (Below.refl _ _).alloc (Nat.le_refl _) _⟩
  case round =>
    obtain ⟨i, pre, hi, hw, hok, hu, hit, hbel⟩ := hrel
    have hpl : pre.length ≤ s.length := by have := congrArg List.length hw; simp at this; omega
    have hfl := flat_len pre
    have HW := Lib.hid hw
    have HU := Lib.hid hu
    have HBE := Lib.hid hbel
    have HIT := Lib.hid hit
    have hilt := hit.lt
    have hpos0 : wr.iterPos w1.heap.size = i := by unfold IsIt at hit; simp [World.iterPos, hit]
    clear hw hu hbel
    by_cases hlt : i < s.length
    · have he := ok_at hlt hok
      have hd := dec_eq hlt he
      have hnx := fun ty => run_next_at (P := Try.prog) ty HIT.out (show i < (⟨s.toArray⟩ : ByteArray).size from hlt)
      rw [hd] at hnx
      simp only at hnx
      have hle := chAt_len hlt
      have hpos := ch_pos s i he
      have hrs := (ch_scal he).1
      have HRN := Lib.hid (runesF_on hlt he)
      rw [wrongF_on hlt he] at hok
      have HOK2 := Lib.hid hok
      clear hd he hok HOK hit
      generalize (chAt s i).n = n at *
      generalize (chAt s i).r = r at *
      have HFS := Lib.hid (flat_snoc pre i r)
      obtain ⟨A, c, hv, hc⟩ := HU.out.shape
      subst hv
      generalize (pre.flatMap fun x => unitsOf x.2) = U at *
      have hu2 := HU.out.but (itSet_but wr.heap.size wr w1.heap.size ⟨s.toArray⟩ (i + n)) (by intro h; have := (HU.out.lt _ h).1; omega)
      have HU2 := Lib.hid hu2
      have hsz2 : (itSet wr w1.heap.size ⟨s.toArray⟩ (i + n)).heap.size = wr.heap.size := by simp [itSet]
      have HSZ2 := Lib.hid hsz2
      have HP := Lib.hid (put_any (w1.heap.size + 1) A U.length c (U.map uv_) r _ hu2 hrs (by omega) (by rw [hsz2]; omega))
      have HIT2 : Hid (IsIt (itSet wr w1.heap.size ⟨s.toArray⟩ (i + n)) w1.heap.size ⟨s.toArray⟩ (i + n)) := HIT.out.set
      have HB2 := Lib.hid (itSet_but w1.heap.size wr w1.heap.size ⟨s.toArray⟩ (i + n))
      clear hrs hu2 hsz2
      generalize hW2 : itSet wr w1.heap.size ⟨s.toArray⟩ (i + n) = W2 at *
      have HW2 := Lib.hid hW2
      clear hW2
      go_wp2_with fail
      refine HP.out.mono ?_
      rintro e w3 ⟨A3, c3, rfl, hu3, hg3⟩
      have HU3 := Lib.hid hu3
      have HG3 := Lib.hid hg3
      have HIT3 := Lib.hid (HIT2.out.grown hg3 (by intro h; have := (HU2.out.lt _ h.symm).1; omega))
      have hp3 : w3.iterPos w1.heap.size = i + n := by have := HIT3.out; unfold IsIt at this; simp [World.iterPos, this]
      clear hu3 hg3
      go_wp2_with fail
      go_roundw
      case rel =>
        refine ⟨i + n, pre ++ [(i, r)], hle, by rw [HW.out, HRN.out]; simp, HOK2.out, ?_, HIT3.out, ?_⟩
        · rw [HFS.out, List.length_append, List.map_append]; exact HU3.out
        · exact (HBE.out.trans ((HB2.out.mono (Nat.le_refl _)).toBelow (Nat.le_refl _))).grown HG3.out (by rw [HSZ2.out]; omega) (fun k hk => by have := (HU2.out.lt k hk).1; omega)
      case measure => simp [hp3, hpos0]; omega
    · have hnx := fun ty => run_next_out (P := Try.prog) ty HIT.out (show ¬ i < (⟨s.toArray⟩ : ByteArray).size from hlt)
      have hend : unitsF s 0 = (pre.flatMap fun x => unitsOf x.2) := by unfold unitsF; rw [HW.out, runesF_end (by omega), List.append_nil]
      have HEND := Lib.hid hend
      obtain ⟨A, c, hv, hc⟩ := HU.out.shape
      subst hv
      clear hend hok HOK hit
      generalize (pre.flatMap fun x => unitsOf x.2) = U at *
      go_wp2_with fail
      go_ret2
      refine ⟨A, c, by rw [HEND.out]; rfl, ?_, keepb HB1.out HBE.out⟩
      rw [HEND.out]
      obtain ⟨q1, q2⟩ := HU.out
      refine ⟨q1, ?_⟩
      rcases q2 with h | ⟨g, cap, rest, h1, h2, h3⟩
      · exact .inl h
      · exact .inr ⟨g, cap, rest, h1, by omega, h3⟩
end Go.Proofs.Ytmdgopclcdmenaa
