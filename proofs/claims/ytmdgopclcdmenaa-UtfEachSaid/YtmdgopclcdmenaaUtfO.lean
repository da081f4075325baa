/- The contracts of the reference's Units, bytes, and of cmp.Compare. -/
import Derived.Test.YtmdgopclcdmenaaUtfN
import Derived.Deep.QuietTactic
import Derived.BigQuiet
namespace Go.Proofs.Ytmdgopclcdmenaa
open Go.RowKit
set_option linter.unusedSimpArgs false
set_option linter.unusedVariables false

theorem runesF_scal (s : List UInt8) : ∀ m i, s.length - i = m → ∀ x ∈ runesF s i, Scal x.2 := by
  intro m
  induction m using Nat.strongRecOn with
  | ind m ih =>
    intro i hm x hx
    by_cases h : i < s.length
    · by_cases he : (chAt s i).e = 0
      · have hp := ch_pos s i he
        rw [runesF_on h he, List.mem_cons] at hx
        rcases hx with rfl | hx
        · exact (ch_scal he).1
        · exact ih (s.length - (i + (chAt s i).n)) (by omega) _ rfl x hx
      · rw [runesF_bad h he] at hx; cases hx
    · rw [runesF_end (by omega)] at hx; cases hx
theorem unitsOf_len (r : Nat) : (unitsOf r).length ≤ 2 := by unfold unitsOf; split <;> simp
theorem flat_len : ∀ l : List (Nat × Nat), (l.flatMap fun x => unitsOf x.2).length ≤ 2 * l.length
  | [] => by simp
  | a :: l => by have h1 := unitsOf_len a.2; have h2 := flat_len l; simp only [List.flatMap_cons, List.length_append, List.length_cons]; omega

def UnitsPost (s : List UInt8) (w : World) (e : Ending) (w' : World) : Prop :=
  ∃ A c, e = .returned (.slice A (unitsF s 0).length c) ∧ RV w' w'.heap.size A (unitsF s 0).length ((unitsF s 0).map uv_) ∧ (unitsF s 0).length ≤ c ∧ Below w.heap.size w w'

set_option maxRecDepth 100000 in
set_option maxHeartbeats 2000000 in
theorem runits_any (s : List UInt8) (w : World) (hn : s.length ≤ 4294967296) :
    Calls Try.prog 41 #[.string ⟨s.toArray⟩] w (UnitsPost s w) := by
  have hsc := runesF_scal s _ 0 rfl
  have hll := runesF_len s _ 0 rfl
  have HSC := Lib.hid hsc
  have HR := Lib.hid (rrunes_any s w hn)
  have hud : unitsF s 0 = (runesF s 0).flatMap fun x => unitsOf x.2 := rfl
  have HUD := Lib.hid hud
  clear hsc hud
  go_enter Try.func41, Try.ntmps41
  go_wp2_with fail
  refine HR.out.mono ?_
  rintro e w1 ⟨A1, c1, A2, c2, rfl, hr1, _, hc1, _, hb1⟩
  have HR1 := Lib.hid hr1
  have HB1 := Lib.hid hb1
  have hs1 := hb1.size
  clear hr1 hb1
  generalize hL : runesF s 0 = L at *
  clear hL
  go_wp2_with fail
  go_loopw [3, 6] (fun u k wr => ∃ j : Nat, j ≤ L.length ∧ k = .int .i64 j ∧ OwnR wr w1.heap.size 74 (fun _ => True) u ((L.take j).flatMap fun x => unitsOf x.2).length (((L.take j).flatMap fun x => unitsOf x.2).map uv_) ∧ Below w1.heap.size w1 wr) (fun _ k _ => L.length - (intOf k).toNat)
  case atStart => exact ⟨0, by omega, rfl, by simp only [List.take_zero, List.flatMap_nil]; exact OwnR.nil _ _ _ _, Below.refl _ _⟩
  case round =>
    obtain ⟨j, hj, rfl, hu, hbel⟩ := hrel
    have HU := Lib.hid hu
    have HBE := Lib.hid hbel
    have hsr := hbel.size
    have hfl := flat_len (L.take j)
    have htl : (L.take j).length ≤ L.length := by simp; omega
    have hr := HR1.out.below hbel
    clear hu hbel
    by_cases hlt : j < L.length
    · obtain ⟨g, o, rfl, hg, hcc⟩ := hr.2 (by omega)
      have hcell := hcc j (by simpa using hlt)
      rw [List.getElem_map] at hcell
      have hsc := HSC.out L[j] (List.getElem_mem hlt)
      have htk := List.take_succ_eq_append_getElem hlt
      have htk2 : ((L.take (j + 1)).flatMap fun x => unitsOf x.2) = ((L.take j).flatMap fun x => unitsOf x.2) ++ unitsOf L[j].2 := by
        rw [htk, List.flatMap_append]; simp
      have HTK := Lib.hid htk2
      clear hcc hr htk htk2
      generalize L[j].2 = r at *
      generalize ((L.take j).flatMap fun x => unitsOf x.2) = U at *
      have hs : r < 1114112 := by unfold Scal at hsc; omega
      clear hsc
      by_cases h16 : r < 65536
      · have HO : Hid (unitsOf r = [r]) := by unfold unitsOf; rw [if_pos h16]; exact rfl
        have d1 : decide ((r : Int) < 65536) = true := by simp; omega
        have d2 : (r : Int) ≤ 65535 := by omega
        clear h16 hs
        go_wp2_with (at_builtin; refine wpList_app ei_u16 trivial rfl (.tmp 26) (.tmp 29) rfl w1.heap.size _ _ _ rfl (HU.out.below (below_alloc _ _)) _ _ _ _ _ rfl (rv_new wr 74 [uv_ r]) (fun u hu => by simp at hu; subst hu; rfl) (show U.length + 1 ≤ _ by omega) (show (U.length + 1) * 2 ≤ _ by omega) (Nat.le_trans hsr (alloc_le _ _)) ?_; intro A3 c3 w3 hu3 hg3 ha3)
        have hb3 : Below w1.heap.size w1 w3 := (HBE.out.alloc hsr _).grown hg3 (Nat.le_trans hsr (alloc_le _ _)) (fun k' hk' => (HU.out.lt k' hk').1)
        go_roundw
        case rel =>
          refine ⟨j + 1, by omega, by go_num, ?_, hb3⟩
          rw [HTK.out, HO.out, List.length_append, List.map_append]
          exact hu3
        case measure => simp [intOf]; omega
      · have ho : (unitsOf r).map uv_ = [.int .u16 (55296 + ((r : Int) - 65536) / 1024), .int .u16 (56320 + ((r : Int) - 65536) % 1024)] := by
          unfold unitsOf
          rw [if_neg h16]
          simp only [List.map_cons, List.map_nil, uv_, List.cons.injEq, Value.int.injEq, true_and, and_true]
          omega
        have hol : (unitsOf r).length = 2 := by unfold unitsOf; rw [if_neg h16]; rfl
        have HO := Lib.hid ho
        have HOL := Lib.hid hol
        have d1 : decide ((r : Int) < 65536) = false := by simp; omega
        have d2 : (r : Int) ≤ 1114111 := by omega
        have d3 : (65536 : Int) ≤ r := by omega
        clear h16 hs ho hol
        go_wp2_with (at_builtin; refine wpList_app ei_u16 trivial rfl (.tmp 31) (.tmp 42) rfl w1.heap.size _ _ _ rfl (HU.out.below (below_alloc _ _)) _ _ _ _ _ rfl (rv_new wr 74 [.int .u16 (55296 + ((r : Int) - 65536) / 1024), .int .u16 (56320 + ((r : Int) - 65536) % 1024)]) (fun u hu => by simp at hu; (rcases hu with rfl | rfl) <;> rfl) (show U.length + 2 ≤ _ by omega) (show (U.length + 2) * 2 ≤ _ by omega) (Nat.le_trans hsr (alloc_le _ _)) ?_; intro A3 c3 w3 hu3 hg3 ha3)
        have hb3 : Below w1.heap.size w1 w3 := (HBE.out.alloc hsr _).grown hg3 (Nat.le_trans hsr (alloc_le _ _)) (fun k' hk' => (HU.out.lt k' hk').1)
        go_roundw
        case rel =>
          refine ⟨j + 1, by omega, by go_num, ?_, hb3⟩
          rw [HTK.out, List.length_append, List.map_append, HO.out, HOL.out]
          exact hu3
        case measure => simp [intOf]; omega
    · obtain rfl : j = L.length := by omega
      have hu := HU.out
      rw [List.take_length, ← HUD.out] at hu
      obtain ⟨A3, c3, hv, hc3⟩ := hu.shape
      subst hv
      have HU3 := Lib.hid hu
      have HB := Lib.hid (keepb HB1.out HBE.out)
      clear hr hfl htl hlt hu HU
      go_wp2_with fail
      go_ret
      exact ⟨A3, c3, rfl, HU3.out.rv, hc3, HB.out⟩

/-- Rows of bytes, held against each other. -/
def bcmp (a b : List UInt8) : Int := cmpL (a.map UInt8.toNat) (b.map UInt8.toNat)
theorem cmpL_skip : ∀ (k : Nat) (x y : List Nat), k ≤ x.length → k ≤ y.length → x.take k = y.take k → cmpL x y = cmpL (x.drop k) (y.drop k)
  | 0, _, _, _, _, _ => by simp
  | k + 1, [], _, h, _, _ => by simp at h
  | k + 1, _ :: _, [], _, h, _ => by simp at h
  | k + 1, a :: x, b :: y, h1, h2, h => by
    simp only [List.take_succ_cons, List.cons.injEq] at h
    obtain ⟨rfl, h⟩ := h
    rw [List.drop_succ_cons, List.drop_succ_cons, ← cmpL_skip k x y (by simpa using h1) (by simpa using h2) h]
    simp only [cmpL, Nat.lt_irrefl, if_false]
/-- Rows that are alike up to a place. -/
theorem cmpL_at (x y : List Nat) (k : Nat) (h : x.take k = y.take k) (h1 : k ≤ x.length) (h2 : k ≤ y.length) :
    (∀ (p : k < x.length) (q : k < y.length), x[k] < y[k] → cmpL x y = -1) ∧ (∀ (p : k < x.length) (q : k < y.length), y[k] < x[k] → cmpL x y = 1) ∧
    (k = x.length → k < y.length → cmpL x y = -1) ∧ (k = y.length → k < x.length → cmpL x y = 1) ∧ (k = x.length → k = y.length → cmpL x y = 0) := by
  rw [cmpL_skip k x y h1 h2 h]
  refine ⟨fun p q hlt => ?_, fun p q hlt => ?_, fun p q => ?_, fun p q => ?_, fun p q => ?_⟩
  · rw [List.drop_eq_getElem_cons p, List.drop_eq_getElem_cons q]; unfold cmpL; rw [if_pos hlt]
  · rw [List.drop_eq_getElem_cons p, List.drop_eq_getElem_cons q]; unfold cmpL; rw [if_neg (by omega), if_pos hlt]
  · rw [List.drop_of_length_le (by omega), List.drop_eq_getElem_cons q]; rfl
  · rw [List.drop_of_length_le (l := y) (by omega), List.drop_eq_getElem_cons q]; rfl
  · rw [List.drop_of_length_le (by omega), List.drop_of_length_le (by omega)]; rfl
theorem take_more {x y : List Nat} {k : Nat} (h : x.take k = y.take k) (p : k < x.length) (q : k < y.length) (he : x[k] = y[k]) : x.take (k + 1) = y.take (k + 1) := by
  rw [List.take_succ_eq_append_getElem p, List.take_succ_eq_append_getElem q, h, he]

set_option maxRecDepth 100000 in
set_option maxHeartbeats 2000000 in
theorem rbytes_any (a b : List UInt8) (w : World) (ha : a.length ≤ 1000000000000000) (hb : b.length ≤ 1000000000000000) :
    Calls Try.prog 55 #[.string ⟨a.toArray⟩, .string ⟨b.toArray⟩] w fun e w' => e = .returned (.int .i64 (bcmp a b)) ∧ Below w.heap.size w w' := by
  go_enter Try.func55, Try.ntmps55
  go_wp2
  go_loopw [5] (fun k wr => ∃ j : Nat, j ≤ a.length ∧ j ≤ b.length ∧ k = .int .i64 j ∧ (a.map UInt8.toNat).take j = (b.map UInt8.toNat).take j ∧ Below w.heap.size w wr) (fun k _ => a.length - (intOf k).toNat)
  case atStart => exact ⟨0, by omega, by omega, rfl, rfl, Below.refl _ _⟩
  case round =>
    obtain ⟨j, hj1, hj2, rfl, ht, hbel⟩ := hrel
    have HAT := Lib.hid (cmpL_at _ _ j ht (by simpa using hj1) (by simpa using hj2))
    have HBE := Lib.hid hbel
    clear hbel
    by_cases h1 : j < a.length
    · by_cases h2 : j < b.length
      · have hba := bget a j h1
        have hbb := bget b j h2
        have HM := Lib.hid (fun he => take_more ht (by simpa using h1) (by simpa using h2) he)
        have hga := bt_get a j h1
        have hgb := bt_get b j h2
        have GA := Lib.hid hga
        have GB := Lib.hid hgb
        clear ht hga hgb
        generalize hx : bt a j = x at *
        generalize hy : bt b j = y at *
        clear hx hy
        have q1 : (0 : Int) ≤ j := by omega
        have q2 : (j : Int) < a.length := by omega
        have q3 : (j : Int) < b.length := by omega
        rcases Nat.lt_trichotomy x y with h | h | h
        · have d1 : decide (x < y) = true := by simp; omega
          have d2 : (x : Int) < y := by omega
          have HV : Hid (bcmp a b = -1) := HAT.out.1 (by simpa using h1) (by simpa using h2) (by simp only [List.getElem_map]; rw [← GA.out, ← GB.out]; exact h)
          clear h
          go_wp2
          go_quiet (fail)
          go_wp2
          go_ret
          exact ⟨by rw [HV.out]; rfl, below_drewN HBE.out nq⟩
        · have d1 : decide (x < y) = false := by simp; omega
          have d2 : decide (y < x) = false := by simp; omega
          have HMM := Lib.hid (HM.out (by simp only [List.getElem_map]; rw [← GA.out, ← GB.out]; exact h))
          clear h
          go_wp2
          go_quiet (fail)
          go_wp2
          go_quiet (fail)
          go_wp2
          go_roundw
          case rel => exact ⟨j + 1, by omega, by omega, by go_num, HMM.out, (by first | exact below_drewN HBE.out _ | exact below_drewN (below_drewN HBE.out _) _)⟩
          case measure => simp [intOf]; omega
        · have d1 : decide (x < y) = false := by simp; omega
          have d2 : decide (y < x) = true := by simp; omega
          have d3 : (y : Int) < x := by omega
          have HV : Hid (bcmp a b = 1) := HAT.out.2.1 (by simpa using h1) (by simpa using h2) (by simp only [List.getElem_map]; rw [← GA.out, ← GB.out]; exact h)
          clear h
          go_wp2
          go_quiet (fail)
          go_wp2
          go_quiet (fail)
          go_wp2
          go_ret
          exact ⟨by rw [HV.out]; rfl, (by first | exact below_drewN HBE.out _ | exact below_drewN (below_drewN HBE.out _) _)⟩
      · obtain rfl : j = b.length := by omega
        have HV : Hid (bcmp a b = 1) := HAT.out.2.2.2.1 (by simp) (by simpa using h1)
        have hge : ¬ (a.length : Int) < b.length := by omega
        have hlt : (b.length : Int) < a.length := by omega
        clear ht
        go_wp2
        go_ret
        exact ⟨by rw [HV.out]; rfl, HBE.out⟩
    · obtain rfl : j = a.length := by omega
      by_cases h2 : a.length < b.length
      · have HV : Hid (bcmp a b = -1) := HAT.out.2.2.1 (by simp) (by simpa using h2)
        clear ht
        go_wp2
        go_ret
        exact ⟨by rw [HV.out]; rfl, HBE.out⟩
      · have HV : Hid (bcmp a b = 0) := HAT.out.2.2.2.2 (by simp) (by simp; omega)
        have he : a.length = b.length := by omega
        clear ht
        go_wp2
        go_ret
        exact ⟨by rw [HV.out]; rfl, HBE.out⟩
end Go.Proofs.Ytmdgopclcdmenaa
