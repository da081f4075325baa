/- copy of a row of one-celled values to a place of a block that is known whole. Over any program. -/
import Derived.Test.YtgihkmofpncobaaDoorRow
import Derived.Laws.CopyOwn
namespace Go.Proofs.YtgihkmofpncobaaDoor
open Go.RowKit
section
variable {P : Program} {t e : TypeId} {z : Value} {bytes : Nat}

theorem EI.size1 (E : EI P t e z bytes) : (P.info? e).map (·.size) = some 1 := by
  obtain ⟨i, hi, _, hs, _⟩ := E.info
  rw [hi]; simp [hs]

/-- copy to a place of a block that is known whole. -/
theorem wpList_copyr {ops : Array Oper} {rest : List Oper} {o : Oper} {a : Act} {Q : Exit → Act → World → Prop} {w : World} (E : EI P t e z bytes) (hgd : o.guard = none) (d s : Operand)
    (ho : o.op = .call { callee := .builtin .copy, args := #[d, s], argTypes := #[t, t] })
    (g off n m dCap sCap : Nat) (A : Option Addr) (hd : a.eval d = .slice (some ⟨g, off, none⟩) m dCap) (hs : a.eval s = .slice A n sCap) (B : Nat) (xs : List Value) (hR : RV w B A n xs) (hnm : n ≤ m)
    (cur : List Value) (hg : Blk w g e cur.toArray) (hlen : off + n ≤ cur.length) (h1 : ∀ u ∈ xs, u.oneCell' = true) (B0 : Nat) (w0 : World) (hb : Below B0 w0 w) (hBg : B0 ≤ g)
    (h : ∀ w', Hid (Blk w' g e (cur.take off ++ (xs ++ cur.drop (off + n))).toArray) → Below B0 w0 w' → wpList P ops Q rest (a.put o.dst (goInt n)) w') : wpList P ops Q (o :: rest) a w := by
  obtain ⟨hl, hc⟩ := hR
  refine wpList_copy_splice hgd d s t t ho e E.und E.size1 (some ⟨g, off, none⟩) A m dCap n sCap hd hs g off cur e hg xs (by rw [hl]; exact (Nat.min_eq_left hnm).symm) ?_ (by omega) h1 B0 w0 hb hBg ?_
  · intro hp
    obtain ⟨g', o', hA, _, hcell⟩ := hc (by omega)
    refine ⟨rfl, _, hA, fun j v hj => ?_⟩
    have hadd : (⟨g', o', none⟩ : Addr).add j = ⟨g', o' + j, none⟩ := by unfold Addr.add; split <;> simp_all
    obtain ⟨hjl, rfl⟩ := List.getElem?_eq_some_iff.1 hj
    rw [hadd, hcell j hjl]
  · intro w' h1 h2
    have h3 := h w' (show _ = _ by
      have := h1.out
      simp only [splice, hl] at this
      exact this) h2
    rw [hl]
    exact h3
end

theorem Blk.read {w : World} {g : Nat} {t : TypeId} {cs : Array Value} (hb : Blk w g t cs) (off : Nat) (xs : List Value) (n : Nat) (hn : xs.length = n) (h : ∀ j (hj : j < xs.length), cs[off + j]? = some xs[j]) : RV w (g + 1) (some ⟨g, off, none⟩) n xs :=
  ⟨hn, fun _ => ⟨g, off, rfl, by omega, fun j hj => by rw [hb.cell]; exact h j hj⟩⟩
theorem RV.fresh (w : World) (t : TypeId) (xs : List Value) : RV (w.alloc (.cells xs.toArray t)) (w.heap.size + 1) (some ⟨w.heap.size, 0, none⟩) xs.length xs :=
  (Blk.read (Blk.new w t xs.toArray) 0 xs xs.length rfl (fun j hj => by simp [hj]))
theorem below_new (w : World) (o : Obj) : Below w.heap.size w (w.alloc o) := (Below.refl _ _).alloc (Nat.le_refl _) _
end Go.Proofs.YtgihkmofpncobaaDoor
