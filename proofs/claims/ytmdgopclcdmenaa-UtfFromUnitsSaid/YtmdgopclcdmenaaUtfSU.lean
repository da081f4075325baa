/- The contract of the law's sameUnits. -/
import Derived.Test.YtmdgopclcdmenaaUtfFU
import Derived.Deep.DrawnRows
namespace Go.Proofs.Ytmdgopclcdmenaa
open Go.RowKit
attribute [local go_sem ↓] Go.wp_at_zero Go.wp_at_succ
set_option linter.unusedSimpArgs false
set_option linter.unusedVariables false

theorem below_drewQ {B : Nat} {w w' : World} (h : Below B w w') : Below B w w'.drew := ⟨h.os, h.tape, h.output, h.size, h.block⟩
set_option maxRecDepth 100000 in
set_option maxHeartbeats 4000000 in
theorem sameUnits (A A' : Option Addr) (c c' : Nat) (U V : List Nat) (w : World) (hr : RV w w.heap.size A U.length (U.map uv_)) (hr' : RV w w.heap.size A' V.length (V.map uv_)) (hn : U.length ≤ 100000000000) (hm : V.length ≤ 100000000000) :
    Calls Try.prog 43 #[.slice A U.length c, .slice A' V.length c'] w fun e w' => e = .returned (.bool (decide (U = V))) ∧ Below w.heap.size w w' := by
  have HR := Lib.hid hr
  have HR' := Lib.hid hr'
  clear hr hr'
  by_cases hl : U.length = V.length
  · have d0 : ((U.length : Int) != (V.length : Int)) = false := by simp; omega
    have d0' : ((U.length : Int) == (V.length : Int)) = true := by simp; omega
    go_enter Try.func43, Try.ntmps43
    go_wp2_with fail
    go_loopw [5] (fun k wr => ∃ i : Nat, i ≤ U.length ∧ k = .int .i64 i ∧ (∀ j (h : j < U.length) (h' : j < V.length), j < i → U[j] = V[j]) ∧ Below w.heap.size w wr) (fun k _ => U.length - (intOf k).toNat)
    case atStart => exact ⟨0, by omega, rfl, fun _ _ _ h => absurd h (by omega), Below.refl _ _⟩
    case round =>
      obtain ⟨i, hi, rfl, heq, hbel⟩ := hrel
      have HEQ := Lib.hid heq
      have HBE := Lib.hid hbel
      clear heq hbel
      have q1 : (0 : Int) ≤ i := by omega
      by_cases hlt : i < U.length
      · have hlt' : i < V.length := by omega
        have q2 : (i : Int) < U.length := by omega
        have q3 : (i : Int) < V.length := by omega
        have d1 : decide (i < U.length) = true := by simp; omega
        obtain ⟨g, o, rfl, _, hcell⟩ := (HR.out.below HBE.out).2 (by omega)
        obtain ⟨g', o', rfl, _, hcell'⟩ := (HR'.out.below HBE.out).2 (by omega)
        have hl0 := (hcell i (by simpa using hlt)).trans (by rw [List.getElem_map])
        have hl0' := (hcell' i (by simpa using hlt')).trans (by rw [List.getElem_map])
        clear hcell hcell'
        by_cases he : U[i] = V[i]
        · have HM : Hid (∀ j (h : j < U.length) (h' : j < V.length), j < i + 1 → U[j] = V[j]) := fun j h h' hj => by
            rcases Nat.lt_or_ge j i with h1 | h1
            · exact HEQ.out j h h' h1
            · obtain rfl : j = i := by omega
              exact he
          have t1 : (((U[i] : Nat) : Int) != (V[i] : Nat)) = false := by simp; omega
          have t2 : (((U[i] : Nat) : Int) == (V[i] : Nat)) = true := by simp; omega
          generalize U[i] = x at *
          generalize V[i] = y at *
          go_wp2
          go_quiet (fail)
          go_wp2
          go_roundw
          case rel => exact ⟨i + 1, by omega, by go_num, HM.out, below_drewN HBE.out nq⟩
          case measure => simp [intOf]; omega
        · have HV : Hid (decide (U = V) = false) := decide_eq_false (fun h => he (by subst h; rfl))
          have t1 : (((U[i] : Nat) : Int) != (V[i] : Nat)) = true := by simp; omega
          have t2 : (((U[i] : Nat) : Int) == (V[i] : Nat)) = false := by simp; omega
          generalize U[i] = x at *
          generalize V[i] = y at *
          go_wp2
          go_quiet (fail)
          go_wp2
          go_ret
          exact ⟨by rw [HV.out]; rfl, below_drewN HBE.out nq⟩
      · have HV : Hid (decide (U = V) = true) := decide_eq_true (List.ext_getElem hl (fun j h h' => HEQ.out j h h' (by omega)))
        have d1 : decide (i < U.length) = false := by simp; omega
        go_wp2_with fail
        go_ret
        exact ⟨by rw [HV.out]; rfl, HBE.out⟩
  · have HV : Hid (decide (U = V) = false) := decide_eq_false (fun h => hl (by rw [h]))
    have d0 : ((U.length : Int) != (V.length : Int)) = true := by simp; omega
    have d0' : ((U.length : Int) == (V.length : Int)) = false := by simp; omega
    go_enter Try.func43, Try.ntmps43
    go_wp2_with fail
    go_ret
    exact ⟨by rw [HV.out]; rfl, Below.refl _ _⟩
end Go.Proofs.Ytmdgopclcdmenaa
