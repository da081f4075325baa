/- An array of bytes that comes in: its bytes. -/
import Derived.Test.YtdlplmflimleaaaMem
import Derived.OpenShut
import Derived.WideKeyArr2
namespace Go.Proofs.Ytdlplmflimleaaa
open Go.ChangeShapes Go.WideShapes
set_option linter.unusedSimpArgs false
set_option linter.unusedVariables false

section
variable {H : Type} {enc : TypeId × Value → H} {P : Program} {k e : TypeId} {n : Nat} {W : World} {base : Nat} {sp : Nat → Bool} {held : Bool}
theorem open_bytes (hk : P.underlying k = some (.array n e)) (he : P.underlying e = some (.int .u8)) (hc : P.cellsOf e = 1) (hck : P.cellsOf k = n) {r : Reach} {b0 : Nat} {v : Value} (hv : Value.okWide P W r b0 k v)
    {d : DataW H} {ps : List MemPlace} (hd : DataW.Trod enc P W base sp held k v d ps) : ∃ bs : List UInt8, v = .agg (bs.map bv).toArray ∧ bs.length = n := by
  have hv' := hv
  simp only [Value.okWide, hk] at hv'
  obtain ⟨cs, h1, h2, _⟩ := hv'
  subst h1
  obtain ⟨fuel, hf⟩ := hd
  obtain ⟨xs, m, rfl, hx, hl, hxn, hel⟩ := DataW.trod_array hk hf
  have hcl : (Value.cells (.agg cs)).toList = cs.toList := rfl
  rw [hcl] at hl hel
  rw [hc] at hel
  rw [hck] at hl
  have key : ∀ (i : Nat) (hi : i < n), ∃ b : UInt8, cs.toList[i]'(by omega) = bv b := by
    intro i hi
    have h := hel i hi
    rw [Nat.mul_one, List.getElem?_eq_getElem (by omega)] at h
    obtain ⟨a, ea, _, wa⟩ := DataW.trod_int he h
    have hdi : (cs.toList.drop i).take 1 = [cs.toList[i]'(by omega)] := by
      rw [List.drop_eq_getElem_cons (by omega)]
      rfl
    rw [hdi] at ea
    have hb : 0 ≤ a ∧ a ≤ 255 := by simpa [Lit.wf, IntKind.min, IntKind.max, IntKind.signed, IntKind.bits] using wa
    refine ⟨UInt8.ofNat a.toNat, ?_⟩
    injection ea with e1
    rw [e1]
    unfold bv
    congr 1
    have : (UInt8.ofNat a.toNat).toNat = a.toNat := by simp; omega
    omega
  refine ⟨(List.finRange n).map fun i => (key i.1 i.2).choose, ?_, by simp⟩
  congr 1
  apply Array.ext'
  refine List.ext_getElem (by simp; omega) (fun i h1 h2 => ?_)
  have hi : i < n := by omega
  have := (key i hi).choose_spec
  rw [this]
  simp
end
end Go.Proofs.Ytdlplmflimleaaa
