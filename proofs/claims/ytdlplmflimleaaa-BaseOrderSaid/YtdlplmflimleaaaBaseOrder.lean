/-
  Proved: 'BaseOrder' answers true at every two rows of bytes: rows of bytes and their letters, by Hex and by Low, stand alike. No condition beyond the given rows' own.
-/
import Derived.Test.YtdlplmflimleaaaBaseO
import Derived.Test.YtdlplmflimleaaaBaseF
import Derived.Deep.DrawnRows
import Derived.BigQuiet
import Derived.WalkKit
import Derived.ProofKit
import Derived.OpenShut
import Derived.ShutString
import Derived.ChangeOld
import Derived.Below
import Derived.SizedLaws
namespace Go.Proofs.Ytdlplmflimleaaa.baseOrder
open Go.ChangeShapes Go.WideShapes Go.ChangeAt Go.RowKit
open Go.ChangeMaps (open_string shut_string)
set_option linter.unusedVariables false
set_option linter.unusedSimpArgs false

theorem own : ownKnob Try.prog.godebug = none := by kernel_rfl
theorem laidOut : laidOutB Try.prog = true := by kernel_rfl

/-- What is known of a slice of integers that came in. -/
def IsRow (k : IntKind) (w : World) (a : Option Addr) (len cap : Nat) (zs : List Int) : Prop :=
  (a = none ∧ len = 0 ∧ cap = 0 ∧ zs = []) ∨
  ∃ x, a = some x ∧ len ≤ cap ∧ cap ≤ maxLen ∧ zs.length = cap ∧ (∀ i, i < zs.length → w.cell? (x.add i) = some (.int k (zs.getD i 0))) ∧ ∀ n ∈ zs, (Lit.int k n).wf = true

theorem ahead_any (x y : List UInt8) (w : World) :
    Calls Try.prog 19 #[.string ⟨x.toArray⟩, .string ⟨y.toArray⟩] w fun e w' => e = .returned (.bool (lle x y)) ∧ w' = w := by
  go_enter Try.func19, Try.ntmps19
  go_wp2
  go_ret
  exact ⟨rfl, rfl⟩

attribute [local go_sem ↓] Go.wp_at_zero Go.wp_at_succ
set_option maxRecDepth 100000 in
set_option maxHeartbeats 4000000 in
theorem walk (a0 : Option Addr) (len0 cap0 : Nat) (z0 : List Int) (a1 : Option Addr) (len1 cap1 : Nat) (z1 : List Int) (w : World) (w0 : IsRow .u8 w a0 len0 cap0 z0) (s0 : cap0 ≤ 140737488351232) (w1 : IsRow .u8 w a1 len1 cap1 z1) (s1 : cap1 ≤ 140737488351232) :
    Calls Try.prog 4 #[.slice a0 len0 cap0, .slice a1 len1 cap1] w fun e w' => e = .returned (.bool true) ∧ Below w.heap.size w w' := by
  obtain ⟨hRB0, hlc0, hcm0⟩ := RB.of_row w0
  obtain ⟨hRB1, hlc1, hcm1⟩ := RB.of_row w1
  clear w0 w1
  generalize ((z0.take len0).map fun z => UInt8.ofNat z.toNat) = bs0 at hRB0
  generalize ((z1.take len1).map fun z => UInt8.ofNat z.toNat) = bs1 at hRB1
  have hl0 := hRB0.1
  have H0 := Lib.hid hRB0
  have H1 := Lib.hid hRB1
  clear hRB0 hRB1
  have hm0 : len0 ≤ 140737488351232 := by omega
  have hm1 : len1 ≤ 140737488351232 := by omega
  clear hlc0 hlc1 hcm0 hcm1 s0 s1
  by_cases hbig : 134217728 < len0 + len1
  · have hbd : decide (134217728 < len0 + len1) = true := by simpa using hbig
    go_enter Try.func4, Try.ntmps4
    go_wp2_with fail
    rw [show ((len0 : Int) + (len1 : Int)) = ((len0 + len1 : Nat) : Int) from by omega]
    refine (beyond_any _ _ (by omega)).mono ?_
    rintro e w' ⟨rfl, rfl⟩
    go_wp2_with fail
    go_ret
    exact ⟨rfl, Below.refl _ _⟩
  · have hbd : decide (134217728 < len0 + len1) = false := by simpa using hbig
    go_enter Try.func4, Try.ntmps4
    go_wp2_with fail
    rw [show ((len0 : Int) + (len1 : Int)) = ((len0 + len1 : Nat) : Int) from by omega]
    refine (beyond_any _ _ (by omega)).mono ?_
    rintro e w' ⟨rfl, rfl⟩
    go_wp2_with fail
    go_loopw [5] (fun i wr => ∃ m : Nat, 1 ≤ m ∧ m ≤ 3 ∧ i = .int .u8 m ∧ Below w.heap.size w wr) (fun i _ => 3 - (intOf i).toNat)
    case atStart => exact ⟨1, by omega, by omega, rfl, Below.refl _ _⟩
    case round =>
      obtain ⟨m, hm1, hm3, rfl, hbel⟩ := hrel
      by_cases h3 : m = 3
      · subst h3
        go_wp2_with fail
        go_ret
        exact ⟨rfl, hbel⟩
      · have h12 : m = 1 ∨ m = 2 := by omega
        have hEnd : ∀ (a : Int) (k : Nat), (a = 1 ∧ k = 4 ∨ a = 2 ∧ k = 5) → (decide (0 < len0) = true → (lets a k bs0 == []) = false) ∧ lle (lets a k bs0) (lets a k bs1) = lle bs0 bs1 ∧ lle (lets a k bs1) (lets a k bs0) = lle bs1 bs0 := by
          intro a k h
          refine ⟨fun hl => ?_, lets_lle a k h _ _, lets_lle a k h _ _⟩
          have := lets_nil a k (by omega) bs0 (by rw [hl0]; simpa using hl)
          simpa using this
        have HE := Lib.hid hEnd
        obtain ⟨k, hk, h0, hak⟩ : ∃ k : Nat, Bt (m : Int) = k ∧ (k = 4 ∨ k = 5 ∨ k = 6) ∧ ((m : Int) = 1 ∧ k = 4 ∨ (m : Int) = 2 ∧ k = 5) := by
          rcases h12 with rfl | rfl
          · exact ⟨4, rfl, by omega, by omega⟩
          · exact ⟨5, rfl, by omega, by omega⟩
        obtain ⟨E1, E2, E3⟩ := HE.out m k hak
        have hm2 : m ≤ 2 := by omega
        have HK := Lib.hid hk
        have HH := Lib.hid h0
        clear hEnd h3 h12 hk h0 hak
        have L1 := Lib.hid E1
        have L2 := Lib.hid E2
        have L3 := Lib.hid E3
        clear E1 E2 E3 HE
        go_wp2_with fail
        refine (Write_ok m k _ _ _ _ bs0 _ (H0.out.below hbel) hbel.size HK.out HH.out (by omega)).mono ?_
        rintro e wa ⟨rfl, hba⟩
        have hbela := keepb hbel hba
        go_wp2_with fail
        refine (Write_ok m k _ _ _ _ bs1 _ (H1.out.below hbela) hbela.size HK.out HH.out (by omega)).mono ?_
        rintro e wb ⟨rfl, hbb⟩
        have hbelb := keepb hbela hbb
        have kb0 := fun n => str_of_RB ((H0.out.below hbelb).below (below_drewN (Below.refl _ wb) n)) cap0
        have kb1 := fun n => str_of_RB ((H1.out.below hbelb).below (below_drewN (Below.refl _ wb) n)) cap1
        have HB := Lib.hid hbelb
        clear hbel hbela hbelb hba hbb
        have hA1 := fun W => ahead_any (lets m k bs0) (lets m k bs1) W
        have hA2 := fun W => ahead_any (lets m k bs1) (lets m k bs0) W
        rw [L2.out] at hA1
        rw [L3.out] at hA2
        have HA1 := Lib.hid hA1
        have HA2 := Lib.hid hA2
        clear hA1 hA2 L2 L3
        generalize lets m k bs0 = x0 at *
        generalize lets m k bs1 = x1 at *
        have HA3 := Lib.hid (fun W => ahead_any bs0 bs1 W)
        have HA4 := Lib.hid (fun W => ahead_any bs1 bs0 W)
        generalize lle bs0 bs1 = b01 at *
        generalize lle bs1 bs0 = b10 at *
        go_wp2_with fail
        by_cases hl : 0 < len0
        · have hd : decide (0 < len0) = true := by simpa using hl
          have hx := L1.out hd
          go_quiet (first
            | (go_at_call 19; refine Calls.quiet_of_same (HA1.out _))
            | (go_at_call 19; refine Calls.quiet_of_same (HA2.out _))
            | (go_at_call 19; refine Calls.quiet_of_same (HA3.out _))
            | (go_at_call 19; refine Calls.quiet_of_same (HA4.out _)))
          go_wp2_with fail
          go_roundw
          case rel => exact ⟨m + 1, by omega, by omega, by go_num, below_drewN HB.out _⟩
          case measure => simp [intOf]; omega
        · have hd : decide (0 < len0) = false := by simpa using hl
          go_quiet (first
            | (go_at_call 19; refine Calls.quiet_of_same (HA1.out _))
            | (go_at_call 19; refine Calls.quiet_of_same (HA2.out _))
            | (go_at_call 19; refine Calls.quiet_of_same (HA3.out _))
            | (go_at_call 19; refine Calls.quiet_of_same (HA4.out _)))
          go_wp2_with fail
          go_roundw
          case rel => exact ⟨m + 1, by omega, by omega, by go_num, below_drewN HB.out _⟩
          case measure => simp [intOf]; omega

set_option maxRecDepth 100000 in
theorem lifted (os : Os) (started : os.Started) (H : Type) (enc : TypeId × Value → H) :
    ReturnsInHanded {} Try.checked os 4 .any (Rows.baseOrderSpec.pre6 enc Try.prog Try.f4 Rows.baseOrderRow.domain false) (Rows.baseOrderSpec.post enc Try.prog Try.f4 false true false false) := by
  refine returnsInHanded_of_change_sized (C := Try.checked) own started (by kernel_rfl) Try.func4
    (ChangeSpec.witness6 (enc := enc) (C := Try.checked) false ⟨#[], #[.slice none 0 0, .slice none 0 0], []⟩ 8 (by kernel_rfl) (by kernel_rfl) (by kernel_rfl) (by kernel_rfl)) ?_
  intro W base args ds gs before hval0 hW hcnd hsz0 _
  have hsz : (DataW.weightsEach Try.prog (Try.f4.params.toList ++ Rows.baseOrderSpec.plain.varTypes Try.prog) (ds ++ gs)).all (· ≤ reachBytes) = true := hsz0
  clear hsz0
  have hval : ∀ (j : Nat) t v, Try.f4.params[j]? = some t → args[j]? = some v → Value.okWide Try.prog W .any base t v := hval0
  have hW' := hW
  obtain ⟨p, q, hA0, hV, rfl, hfz, hnd⟩ := hW
  have hA : DataW.TrodAll enc Try.prog W 0 (fun _ => true) true Try.f4.params.toList args.toList ds p := hA0
  rw [Try.params4] at hA hval hsz
  obtain ⟨v0, vs0, d0, ds0, p0, q0, hargs, rfl, rfl, h0, r0⟩ := trodAll_cons hA
  obtain ⟨v1, vs1, d1, ds1, p1, q1, rfl, rfl, rfl, h1, r1⟩ := trodAll_cons r0
  obtain ⟨rfl, rfl, rfl⟩ := trodAll_nil r1
  obtain rfl : args = #[v0, v1] := by cases args; simp_all
  obtain ⟨rfl, rfl⟩ := trodVars_none hV
  obtain ⟨a0, len0, cap0, rfl⟩ := okWide_slice Try.underlying34 (hval 0 34 v0 rfl rfl)
  have k0 := h0
  have lt0 : ∀ x ∈ p0, x.block < W.heap.size := by obtain ⟨m, hm⟩ := k0; exact DataW.trod_lt m _ _ _ hm
  obtain ⟨z0, w0, s0⟩ : ∃ zs, IsRow .u8 W a0 len0 cap0 zs ∧ cap0 ≤ 140737488351232 := by
    obtain ⟨fuel, hf⟩ := h0
    rcases open_ints Try.underlying34 Try.underlying5 (by kernel_rfl) hf with ⟨hcs, _⟩ | ⟨x, l, c, zs, hcs, _, hl, hm, hz, hdx, hcell, hwz⟩
    · simp [Value.cells] at hcs
      obtain ⟨rfl, rfl, rfl⟩ := hcs
      exact ⟨[], .inl ⟨rfl, rfl, rfl, rfl⟩, by omega⟩
    · simp [Value.cells] at hcs
      obtain ⟨rfl, rfl, rfl⟩ := hcs
      have hz' : zs.length = cap0 := by simpa using hz
      injection hdx with hdx1 hdx2
      have hs := sized_slice hsz (j := 0) (t := 34) (e := 5) (elems := lits .u8 (zs.take len0)) (spare := lits .u8 (zs.drop len0)) rfl (by rw [← hdx1]; rfl) Try.underlying34
      rw [(by kernel_rfl : Try.prog.bytesOf 5 = 1)] at hs
      simp only [lits, List.length_map, List.length_take, List.length_drop, reachBytes, hz'] at hs
      have hs : cap0 ≤ 140737488351232 := by omega
      exact ⟨zs, .inr ⟨_, rfl, hl, hm, hz', hcell, hwz⟩, hs⟩
  obtain ⟨a1, len1, cap1, rfl⟩ := okWide_slice Try.underlying34 (hval 1 34 v1 rfl rfl)
  have k1 := h1
  have lt1 : ∀ x ∈ p1, x.block < W.heap.size := by obtain ⟨m, hm⟩ := k1; exact DataW.trod_lt m _ _ _ hm
  obtain ⟨z1, w1, s1⟩ : ∃ zs, IsRow .u8 W a1 len1 cap1 zs ∧ cap1 ≤ 140737488351232 := by
    obtain ⟨fuel, hf⟩ := h1
    rcases open_ints Try.underlying34 Try.underlying5 (by kernel_rfl) hf with ⟨hcs, _⟩ | ⟨x, l, c, zs, hcs, _, hl, hm, hz, hdx, hcell, hwz⟩
    · simp [Value.cells] at hcs
      obtain ⟨rfl, rfl, rfl⟩ := hcs
      exact ⟨[], .inl ⟨rfl, rfl, rfl, rfl⟩, by omega⟩
    · simp [Value.cells] at hcs
      obtain ⟨rfl, rfl, rfl⟩ := hcs
      have hz' : zs.length = cap1 := by simpa using hz
      injection hdx with hdx1 hdx2
      have hs := sized_slice hsz (j := 1) (t := 34) (e := 5) (elems := lits .u8 (zs.take len1)) (spare := lits .u8 (zs.drop len1)) rfl (by rw [← hdx1]; rfl) Try.underlying34
      rw [(by kernel_rfl : Try.prog.bytesOf 5 = 1)] at hs
      simp only [lits, List.length_map, List.length_take, List.length_drop, reachBytes, hz'] at hs
      have hs : cap1 ≤ 140737488351232 := by omega
      exact ⟨zs, .inr ⟨_, rfl, hl, hm, hz', hcell, hwz⟩, hs⟩
  clear hA0 hval0
  refine (walk a0 len0 cap0 z0 a1 len1 cap1 z1 W w0 s0 w1 s1).mono fun e W' ⟨he, bel⟩ => ?_
  subst he
  exact ⟨_, rfl, _, _, _, [], _, [], hW', trodAll_mk1 (shut_bool Try.underlying4 _), (trodAll_cons_mk (Below.trod laidOut (by kernel_rfl) (of_decide_eq_true (by kernel_rfl)) k0 bel lt0) (trodAll_cons_mk (Below.trod laidOut (by kernel_rfl) (of_decide_eq_true (by kernel_rfl)) k1 bel lt1) trodAll_mk0)), rfl, bel.frame _, fun h => by cases h⟩

theorem over : Rows.baseOrderRow.holds Try.pinned (OpenSpec.ofChange Rows.baseOrderSpec) :=
  OpenClaim.holds_of_wide 4 Try.f4 rfl rfl rfl rfl rfl rfl rfl ⟨rfl, rfl, rfl, rfl, rfl⟩ rfl rfl rfl rfl rfl (by kernel_rfl) Try.func4 (by kernel_rfl)
    (of_decide_eq_true (by kernel_rfl)) (by unfold Func.isWrapper; first | (rw [if_pos (by decide +kernel)]; kernel_rfl) | (rw [if_neg (by decide +kernel)]; exact ⟨rfl, rfl⟩))
    (fun os started H enc _ => lifted os started H enc)

theorem proved : Rows.BaseOrderSaid := over
#print axioms proved
end Go.Proofs.Ytdlplmflimleaaa.baseOrder
