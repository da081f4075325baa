/- What Parts and Float answer; the reference's decimal of a decimal. -/
import Derived.Test.YtjggmdlecdbeeaaDoorDecW
namespace Go.Proofs.YtjggmdlecdbeeaaDoor
open Go.RowKit
set_option linter.unusedSimpArgs false
set_option linter.unusedVariables false

theorem parts_wrong (s : List UInt8) (q : Nat) (w : World) (hs : s.length ≤ 140737488351300) (hw : wrongP s = some q) :
    Calls Tryd.prog 25 #[sv s] w fun e w' => e = .returned (.tuple #[decV (false, [], 0), spotV 40 (q : Nat)]) ∧ Below w.heap.size w w' := by
  have HR := Lib.hid (fun W => parsed_any s W hs)
  have HK0 := Lib.hid (Blk.new w 51 #[.bool false, .string ⟨#[]⟩, .int .i64 0])
  have HB0 := Lib.hid (below_new w (.cells #[.bool false, .string ⟨#[]⟩, .int .i64 0] 51))
  have HV := Lib.hid (show parsedV s = .tuple #[.agg #[.bool false, .string ⟨#[]⟩, .int .i64 0], spotV 40 (q : Nat)] by unfold parsedV; rw [hw]; rfl)
  rw [HV.out] at HR
  clear hw hs
  go_enter Tryd.func25, Tryd.ntmps25
  go_wp2_with fail
  refine (HR.out _).mono ?_
  rintro e w1 ⟨rfl, hb1⟩
  have HK1 := Lib.hid ((HK0.out.below hb1 HK0.out.lt).alloc (.cells #[.bool false, .string ⟨#[]⟩, .int .i64 0] 51))
  have HB1 := Lib.hid ((keepb HB0.out hb1).alloc (keepb HB0.out hb1).size (.cells #[.bool false, .string ⟨#[]⟩, .int .i64 0] 51))
  obtain ⟨c0, c1, c2, f0, f1, f2⟩ := HK1.out.three
  clear hb1
  go_wp2_with fail
  obtain ⟨e0, e1, e2⟩ := HK1.out.put3 (.bool false) (.string ⟨#[]⟩) (.int .i64 0)
  exact bodyPost_ret (v := .tuple #[.agg #[.bool false, .string ⟨#[]⟩, .int .i64 0], spotV 40 (q : Nat)]) (by simp [results, Tryd.results25, go_sem, e0, e1, e2]) rfl ⟨rfl, below_put3 HB1.out (Nat.le_refl _) _ _ _⟩
def partsV (d : Dm) : Value := if nearP d.2.2 then .tuple #[decV d, .nilIface] else .tuple #[decV (false, [], 0), enoV 3]
theorem parts_ok (s : List UInt8) (w : World) (hs : s.length ≤ 140737488351300) (hw : wrongP s = none) :
    Calls Tryd.prog 25 #[sv s] w fun e w' => e = .returned (partsV (bareP s)) ∧ Below w.heap.size w w' := by
  have HR := Lib.hid (fun W => parsed_any s W hs)
  have HK0 := Lib.hid (Blk.new w 51 #[.bool false, .string ⟨#[]⟩, .int .i64 0])
  have HB0 := Lib.hid (below_new w (.cells #[.bool false, .string ⟨#[]⟩, .int .i64 0] 51))
  have HV := Lib.hid (show parsedV s = .tuple #[decV (bareP s), .nilIface] by unfold parsedV; rw [hw])
  have HN := Lib.hid (fun W => near_any (bareP s).2.2 W)
  rw [HV.out] at HR
  have HP := Lib.hid (show partsV (bareP s) = if nearP (bareP s).2.2 then .tuple #[decV (bareP s), .nilIface] else .tuple #[decV (false, [], 0), enoV 3] from rfl)
  clear hw hs
  obtain ⟨R, hR⟩ : ∃ R, partsV (bareP s) = R := ⟨_, rfl⟩
  rw [hR] at HP ⊢
  clear HV hR
  generalize nearP (bareP s).2.2 = nr at *
  generalize bareP s = d at *
  obtain ⟨g, t, x⟩ := d
  unfold decV sv at *
  simp only at HN
  go_enter Tryd.func25, Tryd.ntmps25
  go_wp2_with fail
  refine (HR.out _).mono ?_
  rintro e w1 ⟨rfl, hb1⟩
  have HK1 := Lib.hid ((HK0.out.below hb1 HK0.out.lt).alloc (.cells #[.bool g, .string ⟨t.toArray⟩, .int .i64 x] 51))
  have HB1 := Lib.hid ((keepb HB0.out hb1).alloc (keepb HB0.out hb1).size (.cells #[.bool g, .string ⟨t.toArray⟩, .int .i64 x] 51))
  clear hb1
  go_wp2_with fail
  refine (HN.out _).mono ?_
  rintro e w2 ⟨rfl, rfl⟩
  obtain ⟨c0, c1, c2, f0, f1, f2⟩ := HK1.out.three
  cases nr with
  | true =>
    go_simp
    repeat go_step
    obtain ⟨e0, e1, e2⟩ := HK1.out.put3 (.bool g) (.string ⟨t.toArray⟩) (.int .i64 x)
    exact bodyPost_ret (v := .tuple #[.agg #[.bool g, .string ⟨t.toArray⟩, .int .i64 x], .nilIface]) (by simp [results, Tryd.results25, go_sem, e0, e1, e2]) rfl ⟨by rw [HP.out] <;> rfl, below_put3 HB1.out (Nat.le_refl _) _ _ _⟩
  | false =>
    go_simp
    repeat go_step
    obtain ⟨e0, e1, e2⟩ := HK1.out.put3 (.bool false) (.string ⟨#[]⟩) (.int .i64 0)
    exact bodyPost_ret (v := .tuple #[.agg #[.bool false, .string ⟨#[]⟩, .int .i64 0], enoV 3]) (by simp [results, Tryd.results25, go_sem, e0, e1, e2]) rfl ⟨by rw [HP.out] <;> rfl, below_put3 HB1.out (Nat.le_refl _) _ _ _⟩
theorem flt_any (s : List UInt8) (n : Nat) (er : Value) (w : World) (H : ∀ W, Calls Tryd.prog 26 #[sv s] W fun e w' => e = .returned (.tuple #[.int .u64 (n : Int), er]) ∧ Below W.heap.size W w') :
    Calls Tryd.prog 27 #[sv s] w fun e w' => e = .returned (.tuple #[.float .f64 n, er]) ∧ Below w.heap.size w w' := by
  have HR := Lib.hid H
  have cf := call_from n
  clear H
  go_enter Tryd.func27, Tryd.ntmps27
  go_wp2_with fail
  refine (HR.out _).mono ?_
  rintro e w1 ⟨rfl, hb1⟩
  go_wp2_with fail
  go_ret2
  exact ⟨rfl, hb1⟩
theorem twin_any (d : Dm) (w : World) :
    Calls Tryd.prog 29 #[decV d] w fun e w' => e = .returned (decV d) ∧ Below w.heap.size w w' := by
  obtain ⟨g, l, x⟩ := d
  unfold decV sv
  go_enter Tryd.func29, Tryd.ntmps29
  go_wp2_with fail
  exact bodyPost_ret (v := .agg #[.bool g, .string ⟨l.toArray⟩, .int .i64 x]) (by simp [results, Tryd.results29, go_sem]) rfl ⟨rfl, by go_grown⟩
theorem dec_same (g : Bool) (s : ByteArray) (x : Int) (w : World) : (binOp .neq 36 (.agg #[.bool g, .string s, .int .i64 x]) (.agg #[.bool g, .string s, .int .i64 x])).run Tryd.prog w = .ok (.bool false) w := by
  go_simp
end Go.Proofs.YtjggmdlecdbeeaaDoor
