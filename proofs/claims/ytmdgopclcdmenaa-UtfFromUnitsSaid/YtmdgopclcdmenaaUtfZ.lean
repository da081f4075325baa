/- The contracts of utf.put and utf.Units. -/
import Derived.Test.YtmdgopclcdmenaaUtfY
namespace Go.Proofs.Ytmdgopclcdmenaa
open Go.RowKit
set_option linter.unusedSimpArgs false
set_option linter.unusedVariables false

theorem and_1023 (x : Nat) (hx : x < 2147483648) : bits .and .i32 (x : Int) 1023 = ((x % 1024 : Nat) : Int) := by
  have h1 : (BitVec.ofInt 32 (x : Int)).toNat = x := by
    rw [BitVec.ofInt_natCast, BitVec.toNat_ofNat]; exact Nat.mod_eq_of_lt (by omega)
  have h2 : (BitVec.ofInt 32 (1023 : Int)).toNat = 1023 := by decide
  show IntKind.i32.wrap ((BitVec.ofInt 32 (x : Int) &&& BitVec.ofInt 32 (1023 : Int)).toNat : Int) = _
  have e : x &&& 1023 = x % 1024 := by
    rw [show (1023 : Nat) = 2 ^ 10 - 1 from rfl, Nat.and_two_pow_sub_one_eq_mod]
  rw [BitVec.toNat_and, h1, h2, IntKind.wrap_i32, e]
  have : x % 1024 < 1024 := Nat.mod_lt _ (by omega)
  generalize x % 1024 = y at *
  omega

/-- What a call that grows a row leaves: all other blocks as they were. -/
def PutPost (base : Nat) (v : Value) (n : Nat) (xs : List Value) (r : Nat) (w : World) (e : Ending) (w' : World) : Prop :=
  ∃ A c, e = .returned (.slice A (n + (unitsOf r).length) c) ∧ OwnR w' base 74 (fun u => ∃ m : Nat, u = uv_ m ∧ m < 65536) (.slice A (n + (unitsOf r).length) c) (n + (unitsOf r).length) (xs ++ (unitsOf r).map uv_) ∧ w.grownBy w' v.ownBlock
theorem grown_alloc {w w' : World} {o : Obj} {row : Option Nat} (h : (w.alloc o).grownBy w' row) (hr : ∀ k, row = some k → k < w.heap.size) : w.grownBy w' row :=
  ⟨h.os, h.tape, h.output, Nat.le_trans (alloc_le w o) h.size, fun k hk hne => (h.block k (Nat.lt_of_lt_of_le hk (alloc_le w o)) hne).trans (Below.heap_alloc w o k hk)⟩

set_option maxRecDepth 100000 in
theorem put_any (base : Nat) (A : Option Addr) (n c : Nat) (xs : List Value) (r : Nat) (w : World) (hu : OwnR w base 74 (fun u => ∃ m : Nat, u = uv_ m ∧ m < 65536) (.slice A n c) n xs) (hr : Scal r) (hn : n ≤ 1000000000000) (hB : base ≤ w.heap.size) :
    Calls Try.prog 61 #[.slice A n c, .int .i32 r] w (PutPost base (.slice A n c) n xs r w) := by
  have HU := Lib.hid hu
  have hs : r < 1114112 := by unfold Scal at hr; omega
  clear hu hr
  have okz : (fun u => ∃ m : Nat, u = uv_ m ∧ m < 65536) (Value.int .u16 0) := ⟨0, rfl, by omega⟩
  have OKZ := Lib.hid okz
  clear okz
  by_cases h16 : r < 65536
  · have HO : Hid (unitsOf r = [r]) := by unfold unitsOf; rw [if_pos h16]; exact rfl
    have d1 : decide ((65535 : Int) < r) = false := by simp; omega
    have d2 : (r : Int) ≤ 65535 := by omega
    clear h16 hs
    go_enter Try.func61, Try.ntmps61
    go_wp2_with (at_builtin; refine wpList_app ei_u16 OKZ.out rfl (.tmp 20) (.tmp 23) rfl base _ _ _ rfl (HU.out.below (below_alloc _ _)) _ _ _ _ _ rfl (rv_new w 74 [uv_ r]) (fun u hu => by simp at hu; subst hu; rfl) (show n + 1 ≤ _ by omega) (show (n + 1) * 2 ≤ _ by omega) (Nat.le_trans hB (alloc_le _ _)) ?_; intro A3 c3 w3 hu3 hg3 ha3)
    go_ret
    refine ⟨A3, c3, ?_⟩
    rw [HO.out]
    exact ⟨rfl, hu3, grown_alloc hg3 (fun k hk => (HU.out.lt k hk).2)⟩
  · obtain ⟨q, hq⟩ : ∃ q : Nat, q = r - 65536 := ⟨_, rfl⟩
    have hql : q < 1048576 := by omega
    have hq2 : (r : Int) - 65536 = (q : Int) := by omega
    have hand := and_1023 q (by omega)
    have ho : (unitsOf r).map uv_ = [.int .u16 (55296 + (q : Int) / 1024), .int .u16 (56320 + ((q % 1024 : Nat) : Int))] := by
      unfold unitsOf
      rw [if_neg h16, ← hq]
      rfl
    have hol : (unitsOf r).length = 2 := by unfold unitsOf; rw [if_neg h16]; rfl
    have HO := Lib.hid ho
    have HOL := Lib.hid hol
    have d1 : decide ((65535 : Int) < r) = true := by simp; omega
    have d2 : (65535 : Int) < r := by omega
    have d3 : (r : Int) ≤ 1114111 := by omega
    have hm : (q % 1024 : Nat) < 1024 := Nat.mod_lt _ (by omega)
    clear h16 hs ho hol hq
    generalize q % 1024 = y at *
    go_enter Try.func61, Try.ntmps61
    go_wp2_with (at_builtin; refine wpList_app ei_u16 OKZ.out rfl (.tmp 9) (.tmp 18) rfl base _ _ _ rfl (HU.out.below (below_alloc _ _)) _ _ _ _ _ rfl (rv_new w 74 [.int .u16 (55296 + (q : Int) / 1024), .int .u16 (56320 + (y : Int))]) (fun u hu => by simp at hu; (rcases hu with rfl | rfl) <;> rfl) (show n + 2 ≤ _ by omega) (show (n + 2) * 2 ≤ _ by omega) (Nat.le_trans hB (alloc_le _ _)) ?_; intro A3 c3 w3 hu3 hg3 ha3)
    go_ret
    refine ⟨A3, c3, ?_⟩
    rw [HO.out, HOL.out]
    exact ⟨rfl, hu3, grown_alloc hg3 (fun k hk => (HU.out.lt k hk).2)⟩
end Go.Proofs.Ytmdgopclcdmenaa
