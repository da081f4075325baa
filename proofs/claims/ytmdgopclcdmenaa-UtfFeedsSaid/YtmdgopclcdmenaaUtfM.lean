/- The contract of the law's total. -/
import Derived.Test.YtmdgopclcdmenaaUtfL
namespace Go.Proofs.Ytmdgopclcdmenaa
open Go.RowKit
set_option linter.unusedSimpArgs false
set_option linter.unusedVariables false

def TotPost (b : Nat → List UInt8) (len : Nat) (w : World) (e : Ending) (w' : World) : Prop :=
  ∃ N : Nat, e = .returned (.int .i64 N) ∧ N ≤ 140739700000000 ∧ (N ≤ 2147483647 → N = tot b len) ∧ w = w'
theorem total_any (a : Option Addr) (len cap : Nat) (A : Nat → Option Addr) (L C : Nat → Nat) (b : Nat → List UInt8) (w : World) (h : PB w w.heap.size a len A L C b) (hl : len ≤ 5864062014634) :
    Calls Try.prog 33 #[.slice a len cap] w (TotPost b len w) := by
  have HP := Lib.hid h
  clear h
  go_enter Try.func33, Try.ntmps33
  go_wp2_with fail
  go_loop [3, 4] (fun n i => ∃ j : Nat, j ≤ len ∧ i = .int .i64 j ∧ n = .int .i64 (tot b j : Nat) ∧ tot b j ≤ 140739700000000) (fun _ i => len - (intOf i).toNat)
  case atStart => exact ⟨0, by omega, rfl, rfl, by simp [tot, cat_zero]⟩
  case round =>
    obtain ⟨j, hj, rfl, rfl, htb⟩ := hrel
    have hm : tot b j ≤ 9223372036854775807 := by omega
    have HB := Lib.hid (fun w => beyond_any (tot b j) w hm)
    by_cases hbig : 2147483647 < tot b j
    · rw [show decide (2147483647 < tot b j) = true by simpa using hbig] at HB
      have HN := Lib.hid hbig
      clear hm hbig
      generalize tot b j = n at *
      by_cases hlt : j < len
      · go_wp2_with (go_at_call 23; refine (HB.out _).mono ?_; rintro e w' ⟨rfl, rfl⟩)
        go_ret
        exact ⟨n, rfl, htb, fun h => by have := HN.out; omega, rfl⟩
      · go_wp2_with (go_at_call 23; refine (HB.out _).mono ?_; rintro e w' ⟨rfl, rfl⟩)
        go_ret
        exact ⟨n, rfl, htb, fun h => by have := HN.out; omega, rfl⟩
    · rw [show decide (2147483647 < tot b j) = false by simpa using hbig] at HB
      by_cases hlt : j < len
      · obtain ⟨g, o, rfl, hg, hc⟩ := HP.out.2 (by omega)
        have hcell := hc j hlt
        obtain ⟨hrb, hlc, hcm⟩ := HP.out.1 j hlt
        have hll := hrb.1
        have hts := tot_succ b j
        rw [hll] at hts
        have HTS := Lib.hid hts
        have htn : tot b j + (L j + 1) ≤ 140739700000000 := by omega
        clear hc hrb hts hll
        generalize tot b j = n at *
        generalize L j = l at *
        go_wp2_with (go_at_call 23; refine (HB.out _).mono ?_; rintro e w' ⟨rfl, rfl⟩)
        go_round
        case rel => exact ⟨j + 1, by omega, by go_num, by rw [HTS.out]; go_num, by rw [HTS.out]; exact htn⟩
        case measure => simp [intOf]; omega
      · obtain rfl : j = len := by omega
        have HT : Hid (∃ n, n = tot b j) := ⟨_, rfl⟩
        generalize hn : tot b j = n at *
        have HN := Lib.hid hn
        clear hn
        go_wp2_with (go_at_call 23; refine (HB.out _).mono ?_; rintro e w' ⟨rfl, rfl⟩)
        go_ret
        exact ⟨n, rfl, htb, fun _ => HN.out.symm, rfl⟩
end Go.Proofs.Ytmdgopclcdmenaa
