/- The contracts of the reference's Runes and Units. -/
import Derived.Test.YtmdgopclcdmenaaUtfI
import Derived.Test.YtmdgopclcdmenaaUtfS
import Derived.Test.YtmdgopclcdmenaaUtfE
namespace Go.Proofs.Ytmdgopclcdmenaa
open Go.RowKit
set_option linter.unusedSimpArgs false
set_option linter.unusedVariables false

theorem ei_i32 : EI Try.prog 39 21 (.int .i32 0) 4 := ⟨Try.underlying39, info_parts (by kernel_rfl), rfl, rfl⟩
theorem ei_int : EI Try.prog 40 3 (.int .i64 0) 8 := ⟨Try.underlying40, info_parts (by kernel_rfl), rfl, rfl⟩
theorem ei_u16 : EI Try.prog 66 74 (.int .u16 0) 2 := ⟨Try.underlying66, info_parts (by kernel_rfl), rfl, rfl⟩
abbrev rv_ (r : Nat) : Value := .int .i32 (r : Int)
abbrev iv_ (r : Nat) : Value := .int .i64 (r : Int)
abbrev uv_ (r : Nat) : Value := .int .u16 (r : Int)

theorem alloc_le (w : World) (o : Obj) : w.heap.size ≤ (w.alloc o).heap.size := by simp
theorem below_alloc (w : World) (o : Obj) : Below w.heap.size w (w.alloc o) := (Below.refl _ _).alloc (Nat.le_refl _) o
theorem OwnR.disj {w : World} {b b' n n' : Nat} {e e' : TypeId} {ok ok' : Value → Prop} {v v' : Value} {xs xs' : List Value} (h : OwnR w b e ok v n xs) (h' : OwnR w b' e' ok' v' n' xs') (hne : e ≠ e') : v.ownBlock = none ∨ v.ownBlock ≠ v'.ownBlock := by
  rcases h'.2 with ⟨rfl, _⟩ | ⟨g, cap, rest, rfl, _, hB, _⟩
  · cases hv : v.ownBlock with
    | none => exact .inl rfl
    | some k => exact .inr (by simp [Value.ownBlock])
  · exact .inr (h.apart hB hne)

theorem runesF_len (s : List UInt8) : ∀ m i, s.length - i = m → (runesF s i).length ≤ m := by
  intro m
  induction m using Nat.strongRecOn with
  | ind m ih =>
    intro i hm
    by_cases h : i < s.length
    · by_cases he : (chAt s i).e = 0
      · have hp := ch_pos s i he
        have := ih (s.length - (i + (chAt s i).n)) (by omega) _ rfl
        rw [runesF_on h he, List.length_cons]
        omega
      · rw [runesF_bad h he]; simp
    · rw [runesF_end (by omega)]; simp

def RunesPost (s : List UInt8) (w : World) (e : Ending) (w' : World) : Prop :=
  ∃ A1 c1 A2 c2, e = .returned (.tuple #[.slice A1 (runesF s 0).length c1, .slice A2 (runesF s 0).length c2]) ∧ RV w' w'.heap.size A1 (runesF s 0).length ((runesF s 0).map fun x => rv_ x.2) ∧
    RV w' w'.heap.size A2 (runesF s 0).length ((runesF s 0).map fun x => iv_ x.1) ∧ (runesF s 0).length ≤ c1 ∧ (runesF s 0).length ≤ c2 ∧ Below w.heap.size w w'

set_option maxRecDepth 100000 in
set_option maxHeartbeats 2000000 in
theorem rrunes_any (s : List UInt8) (w : World) (hn : s.length ≤ 4294967296) :
    Calls Try.prog 24 #[.string ⟨s.toArray⟩] w (RunesPost s w) := by
  go_enter Try.func24, Try.ntmps24
  go_wp2
  go_loopw [4, 5, 6] (fun u v k wr => ∃ (i : Nat) (pre : List (Nat × Nat)), i ≤ s.length ∧ k = .int .i64 i ∧ runesF s 0 = pre ++ runesF s i ∧ OwnR wr w.heap.size 21 (fun _ => True) u pre.length (pre.map fun x => rv_ x.2) ∧
      OwnR wr w.heap.size 3 (fun _ => True) v pre.length (pre.map fun x => iv_ x.1) ∧ pre.length ≤ i ∧ Below w.heap.size w wr) (fun _ _ k _ => s.length - (intOf k).toNat)
  case atStart => exact ⟨0, [], by omega, rfl, rfl, OwnR.nil _ _ _ _, OwnR.nil _ _ _ _, by simp, Below.refl _ _⟩
  case round =>
    obtain ⟨i, pre, hi, rfl, hw, hu, hv, hpl, hbel⟩ := hrel
    have HW := Lib.hid hw
    have HU := Lib.hid hu
    have HV := Lib.hid hv
    have HBE := Lib.hid hbel
    have hsr := hbel.size
    clear hw hu hv hbel
    by_cases hlt : i < s.length
    · have HAT := Lib.hid (fun W => rat_any s i W hlt (by omega))
      have hle := chAt_len hlt
      by_cases he : (chAt s i).e = 0
      · rw [at_ok (ch_ok s i he)] at HAT
        have hwo := runesF_on hlt he
        have hpos := ch_pos s i he
        have HWO := Lib.hid hwo
        clear hwo he
        generalize (chAt s i).n = n at *
        generalize (chAt s i).r = r at *
        go_wp2_with fail
        refine (HAT.out _).mono ?_
        rintro e w' ⟨rfl, rfl⟩
        go_wp2_with (first
          | (at_builtin; refine wpList_app ei_i32 trivial rfl (.tmp 27) (.tmp 29) rfl w.heap.size _ _ _ rfl (HU.out.below ((Below.refl _ _).alloc (Nat.le_refl _) _)) _ _ _ _ _ rfl (rv_new wr 21 [rv_ r]) (fun u hu => by simp at hu; subst hu; rfl) (show pre.length + 1 ≤ _ by omega) (show (pre.length + 1) * 4 ≤ _ by omega) (Nat.le_trans hsr (alloc_le _ _)) ?_; intro A1 c1 w1 hu1 hg1 ha1)
          | (at_builtin; refine wpList_app ei_int trivial rfl (.tmp 31) (.tmp 33) rfl w.heap.size _ _ _ rfl ((((HV.out.below ((Below.refl _ _).alloc (Nat.le_refl _) _)).kept hg1 (HV.out.disj HU.out (by decide)))).below ((Below.refl _ _).alloc (Nat.le_refl _) _)) _ _ _ _ _ rfl (rv_new w1 3 [iv_ i]) (fun u hu => by simp at hu; subst hu; rfl) (show pre.length + 1 ≤ _ by omega) (show (pre.length + 1) * 8 ≤ _ by omega) (Nat.le_trans hsr (Nat.le_trans (alloc_le wr _) (Nat.le_trans hg1.size (alloc_le _ _)))) ?_; intro A2 c2 w2 hv2 hg2 ha2))
        have hb1 : Below w.heap.size w w1 := (HBE.out.alloc hsr _).grown hg1 (Nat.le_trans hsr (alloc_le _ _)) (fun k' hk' => (HU.out.lt k' hk').1)
        have hb2 : Below w.heap.size w w2 := (hb1.alloc hb1.size _).grown hg2 (Nat.le_trans hb1.size (alloc_le _ _)) (fun k' hk' => (HV.out.lt k' hk').1)
        have hu2 := (hu1.below ((Below.refl _ _).alloc (Nat.le_refl _) (.cells #[iv_ i] 3))).kept hg2 (hu1.disj ((HV.out.below ((Below.refl _ _).alloc (Nat.le_refl _) (.cells #[rv_ r] 21))).kept hg1 (HV.out.disj HU.out (by decide))) (by decide))
        go_roundw
        case rel =>
          refine ⟨i + n, pre ++ [(i, r)], hle, by go_num, by rw [HW.out, HWO.out]; simp, ?_, ?_, by simp; omega, hb2⟩
          · rw [List.length_append, List.map_append]; exact hu2
          · rw [List.length_append, List.map_append]; exact hv2
        case measure => simp [intOf]; omega
      · rw [at_bad (ch_bad s i he)] at HAT
        have hwo := runesF_bad hlt he
        have hend : runesF s 0 = pre := by rw [HW.out, hwo, List.append_nil]
        have HEND := Lib.hid hend
        have hne : (((chAt s i).e : Int) != 0) = true := by rw [bne_iff_ne]; omega
        obtain ⟨A1, c1, rfl, hc1⟩ := HU.out.shape
        obtain ⟨A2, c2, rfl, hc2⟩ := HV.out.shape
        clear hwo he HW hend
        generalize (chAt s i).e = x at *
        generalize (chAt s i).p = p at *
        go_wp2_with fail
        refine (HAT.out _).mono ?_
        rintro e w' ⟨rfl, rfl⟩
        go_wp2_with fail
        go_ret2
        exact ⟨A1, c1, A2, c2, by rw [HEND.out]; rfl, by rw [HEND.out]; exact HU.out.rv, by rw [HEND.out]; exact HV.out.rv, by rw [HEND.out]; exact hc1, by rw [HEND.out]; exact hc2, HBE.out⟩
    · have hwo := runesF_end (s := s) (i := i) (by omega)
      have hend : runesF s 0 = pre := by rw [HW.out, hwo, List.append_nil]
      have HEND := Lib.hid hend
      obtain ⟨A1, c1, rfl, hc1⟩ := HU.out.shape
      obtain ⟨A2, c2, rfl, hc2⟩ := HV.out.shape
      clear hwo HW hend
      go_wp2_with fail
      go_ret2
      exact ⟨A1, c1, A2, c2, by rw [HEND.out]; rfl, by rw [HEND.out]; exact HU.out.rv, by rw [HEND.out]; exact HV.out.rv, by rw [HEND.out]; exact hc1, by rw [HEND.out]; exact hc2, HBE.out⟩
end Go.Proofs.Ytmdgopclcdmenaa
