/- Memory: what stays below, what is known of a block, of bytes that are read. Over any program. -/
import Derived.WalkKit
import Derived.Below
import Derived.Laws.OwnMore
import Derived.Laws.Rows
import Derived.Lib.Hide
import Derived.Lib.ConvBytes
import Derived.Deep.Draws
namespace Go.Proofs.YtgihkmofpncobaaDoor
open Go.RowKit

theorem bcell {W w1 : World} (hb : Below W.heap.size W w1) : (∀ b o, b < W.heap.size → w1.cell? ⟨b, o, none⟩ = W.cell? ⟨b, o, none⟩) ∧ (∀ b o, b < W.heap.size → w1.frozen? ⟨b, o, none⟩ = W.frozen? ⟨b, o, none⟩) :=
  ⟨fun b o h => hb.cell (p := ⟨b, o, none⟩) h, fun b o h => hb.frozen (p := ⟨b, o, none⟩) h⟩
theorem keepc {W w1 : World} {b o : Nat} {v : Value} (hx : Below W.heap.size W w1) (hz : b < W.heap.size) (hc : W.cell? ⟨b, o, none⟩ = some v) : w1.cell? ⟨b, o, none⟩ = some v := by
  rw [hx.cell (p := ⟨b, o, none⟩) hz]; exact hc
theorem keepf {W w1 : World} {b o : Nat} (hx : Below W.heap.size W w1) (hz : b < W.heap.size) (hc : W.frozen? ⟨b, o, none⟩ = false) : w1.frozen? ⟨b, o, none⟩ = false := by
  rw [hx.frozen (p := ⟨b, o, none⟩) hz]; exact hc
theorem keepz {W w1 : World} {b : Nat} (hx : Below W.heap.size W w1) (hz : b < W.heap.size) : b < w1.heap.size := Nat.lt_of_lt_of_le hz hx.size
theorem keepb {w W w1 : World} (hb : Below w.heap.size w W) (hx : Below W.heap.size W w1) : Below w.heap.size w w1 := hb.trans (hx.mono hb.size)
theorem below_drewN {B : Nat} {a w : World} (h : Below B a w) (n : Nat) : Below B a (w.drewN n) := ⟨h.os, h.tape, h.output, h.size, h.block⟩

/-- A block that is known whole, none of it frozen. -/
def Blk (w : World) (g : Nat) (t : TypeId) (cs : Array Value) : Prop := w.heap[g]? = some (.cells cs t (0, 0))
section
variable {w w' : World} {g : Nat} {t : TypeId} {cs : Array Value}
theorem Blk.lt (h : Blk w g t cs) : g < w.heap.size := by
  rcases Nat.lt_or_ge g w.heap.size with hlt | hge
  · exact hlt
  · unfold Blk at h; rw [Array.getElem?_eq_none hge] at h; cases h
theorem Blk.cell (h : Blk w g t cs) (i : Nat) : w.cell? ⟨g, i, none⟩ = cs[i]? := cell_of_row w g i cs t (0, 0) h
theorem Blk.frozen (h : Blk w g t cs) (i : Nat) : w.frozen? ⟨g, i, none⟩ = false := by
  unfold Blk at h
  simp [World.frozen?, h]
theorem Blk.new (w : World) (t : TypeId) (cs : Array Value) : Blk (w.alloc (.cells cs t)) w.heap.size t cs := heap_alloc_new w _
theorem Blk.drew (h : Blk w g t cs) : Blk w.drew g t cs := h
theorem Blk.drewN (h : Blk w g t cs) (n : Nat) : Blk (w.drewN n) g t cs := h
theorem Blk.alloc (h : Blk w g t cs) (o : Obj) : Blk (w.alloc o) g t cs := (Below.heap_alloc w o g h.lt).trans h
theorem Blk.set1 (h : Blk w g t cs) (i : Nat) (u : Value) : Blk (w.setCell ⟨g, i, none⟩ u) g t (cs.setIfInBounds i u) := by
  unfold Blk at h ⊢
  simp [World.setCell, Array.getElem?_modify, h]
theorem Blk.far (h : Blk w g t cs) {p : Addr} (hp : g ≠ p.block) (u : Value) : Blk (w.setCell p u) g t cs := (Below.heap_setCell w p u g hp).trans h
theorem Blk.below {B : Nat} (h : Blk w g t cs) (hb : Below B w w') (hg : g < B) : Blk w' g t cs := (hb.block g hg).trans h
theorem Blk.grown {row : Option Nat} (h : Blk w g t cs) (hb : w.grownBy w' row) (hg : some g ≠ row) : Blk w' g t cs := (hb.block g h.lt hg).trans h
theorem Blk.apart {g' : Nat} {t' : TypeId} {cs' : Array Value} (h : Blk w g t cs) (h' : Blk w g' t' cs') (hne : t ≠ t') : g ≠ g' := by
  rintro rfl
  unfold Blk at h h'
  rw [h] at h'
  injection h' with h'
  injection h' with _ ht
  exact hne ht
theorem own_apart {base : Nat} {e : TypeId} {size n : Nat} {v : Value} {xs : List Value} (h : w.ownsRow base e size v n xs) (hg : Blk w g t cs) (hne : e ≠ t) : v.ownBlock ≠ some g := by
  rcases h.2 with ⟨rfl, _⟩ | ⟨g', cap, cur, rfl, _, hh, _⟩
  · simp [Value.ownBlock]
  · intro he
    have : g' = g := by simpa [Value.ownBlock] using he
    subst this
    exact Blk.apart (t := e) hh hg hne rfl
end

/-- Below block number B, but for block b, the world is as it was. -/
structure But (B b : Nat) (w w' : World) : Prop where
  os : w'.os = w.os
  tape : w'.tape = w.tape
  output : w'.output = w.output
  size : w.heap.size ≤ w'.heap.size
  block : ∀ k, k < B → k ≠ b → w'.heap[k]? = w.heap[k]?
section
variable {B b : Nat} {a w w' : World}
theorem But.refl (B b : Nat) (w : World) : But B b w w := ⟨rfl, rfl, rfl, Nat.le_refl _, fun _ _ _ => rfl⟩
theorem But.trans (h : But B b a w) (k : But B b w w') : But B b a w' :=
  ⟨k.os.trans h.os, k.tape.trans h.tape, k.output.trans h.output, Nat.le_trans h.size k.size, fun i hi hb => (k.block i hi hb).trans (h.block i hi hb)⟩
theorem But.drew (h : But B b a w) : But B b a w.drew := ⟨h.os, h.tape, h.output, h.size, h.block⟩
theorem But.drewN (h : But B b a w) (n : Nat) : But B b a (w.drewN n) := ⟨h.os, h.tape, h.output, h.size, h.block⟩
theorem But.below (h : But B b a w) (k : Below B w w') : But B b a w' :=
  ⟨k.os.trans h.os, k.tape.trans h.tape, k.output.trans h.output, Nat.le_trans h.size k.size, fun i hi hb => (k.block i hi).trans (h.block i hi hb)⟩
theorem But.of_below (k : Below B w w') : But B b w w' := (But.refl B b w).below k
theorem But.alloc (h : But B b a w) (hB : B ≤ w.heap.size) (o : Obj) : But B b a (w.alloc o) := h.below ((Below.refl _ _).alloc hB o)
theorem But.setCell (h : But B b a w) {p : Addr} (hp : p.block = b ∨ B ≤ p.block) (u : Value) : But B b a (w.setCell p u) :=
  h.trans ⟨rfl, rfl, rfl, by simp [World.setCell], fun k hk hb => Below.heap_setCell _ _ _ _ (by omega)⟩
theorem But.grown {row : Option Nat} (h : But B b a w) (hg : w.grownBy w' row) (hB : B ≤ w.heap.size) (hr : ∀ k, row = some k → B ≤ k) : But B b a w' :=
  h.below ((Below.refl _ _).grown hg hB hr)
theorem But.mono {B' : Nat} (h : But B b w w') (hB : B' ≤ B) : But B' b w w' := ⟨h.os, h.tape, h.output, h.size, fun k hk hb => h.block k (by omega) hb⟩
theorem But.toBelow (h : But B b w w') (hb : B ≤ b) : Below B w w' := ⟨h.os, h.tape, h.output, h.size, fun k hk => h.block k hk (by omega)⟩
theorem But.grownBy (h : But w.heap.size b w w') : w.grownBy w' (some b) := ⟨h.os, h.tape, h.output, h.size, fun k hk hne => h.block k hk (fun e => hne (by rw [e]))⟩
theorem own_but {base : Nat} {e : TypeId} {size n : Nat} {v : Value} {xs : List Value} (h : w.ownsRow base e size v n xs) (hb : But w.heap.size b w w') (hne : v.ownBlock ≠ some b) : w'.ownsRow base e size v n xs :=
  h.kept hb.grownBy (.inr hne)
theorem But.cell (h : But B b w w') {p : Addr} (hp : p.block < B) (hb : p.block ≠ b) : w'.cell? p = w.cell? p := World.cell?_of_block (w := w) (h.block p.block hp hb)
end

/-- A byte as a value of the program. -/
abbrev bv (b : UInt8) : Value := .int .u8 (b.toNat : Int)

/-- A slice value's first n cells are these bytes; they lie below block B. -/
def RB (w : World) (B : Nat) (A : Option Addr) (n : Nat) (bs : List UInt8) : Prop :=
  bs.length = n ∧ (0 < n → ∃ g o, A = some ⟨g, o, none⟩ ∧ g < B ∧ ∀ j (h : j < bs.length), w.cell? ⟨g, o + j, none⟩ = some (bv bs[j]))

theorem RB.nil (w : World) (B : Nat) (A : Option Addr) : RB w B A 0 [] := ⟨rfl, fun h => absurd h (by omega)⟩
theorem RB.keep {w w' : World} {B : Nat} {A : Option Addr} {n : Nat} {bs : List UInt8} (h : RB w B A n bs) (hk : ∀ g o, A = some ⟨g, o, none⟩ → g < B → ∀ j, w'.cell? ⟨g, j, none⟩ = w.cell? ⟨g, j, none⟩) : RB w' B A n bs :=
  ⟨h.1, fun hn => by
    obtain ⟨g, o, hA, hg, hc⟩ := h.2 hn
    exact ⟨g, o, hA, hg, fun j hj => (hk g o hA hg _).trans (hc j hj)⟩⟩
theorem RB.below {w w' : World} {B : Nat} {A : Option Addr} {n : Nat} {bs : List UInt8} (h : RB w B A n bs) (hb : Below B w w') : RB w' B A n bs :=
  h.keep fun g _ _ hg j => hb.cell (p := ⟨g, j, none⟩) hg
theorem RB.mono {w : World} {B B' : Nat} {A : Option Addr} {n : Nat} {bs : List UInt8} (h : RB w B A n bs) (hB : B ≤ B') : RB w B' A n bs :=
  ⟨h.1, fun hn => by
    obtain ⟨g, o, hA, hg, hc⟩ := h.2 hn
    exact ⟨g, o, hA, by omega, hc⟩⟩
theorem RB.but {w w' : World} {B b : Nat} {A : Option Addr} {n : Nat} {bs : List UInt8} (h : RB w B A n bs) (hb : But B b w w') (hne : ∀ g o, A = some ⟨g, o, none⟩ → 0 < n → g ≠ b) : RB w' B A n bs :=
  ⟨h.1, fun hn => by
    obtain ⟨g, o, hA, hg, hc⟩ := h.2 hn
    exact ⟨g, o, hA, hg, fun j hj => (hb.cell (p := ⟨g, o + j, none⟩) hg (hne g o hA hn)).trans (hc j hj)⟩⟩
theorem RB.lt {w : World} {B : Nat} {A : Option Addr} {n : Nat} {bs : List UInt8} (h : RB w B A n bs) : ∀ g o, A = some ⟨g, o, none⟩ → 0 < n → g < B := by
  intro g o hA hn
  obtain ⟨g', o', hA', hg, _⟩ := h.2 hn
  rw [hA] at hA'
  injection hA' with h1
  injection h1 with h1
  omega
theorem RB.of_own {w : World} {base : Nat} {e : TypeId} {A : Option Addr} {n c : Nat} {bs : List UInt8} (h : w.ownsRow base e 1 (.slice A n c) n (bs.map bv)) : RB w w.heap.size A n bs := by
  have hl : bs.length = n := by have := h.1; simpa using this
  refine ⟨hl, fun hn => ?_⟩
  rcases h.2 with ⟨_, h0⟩ | ⟨g, cap, cur, hv, _, hg, _, _, _, htake⟩
  · omega
  · injection hv with hA hn' hc
    subst hA
    refine ⟨g, 0, rfl, (Array.getElem?_eq_some_iff.1 hg).1, fun j hj => ?_⟩
    have := h.cells (g := g) rfl j (bv bs[j]) (by simp [hj])
    have hadd : (⟨g, 0, none⟩ : Addr).add j = ⟨g, 0 + j, none⟩ := by unfold Addr.add; split <;> simp_all
    rwa [hadd] at this

theorem own_shape {w : World} {base : Nat} {e : TypeId} {size n : Nat} {v : Value} {xs : List Value} (h : w.ownsRow base e size v n xs) : ∃ A c, v = .slice A n c ∧ n ≤ c := by
  rcases h.2 with ⟨rfl, rfl⟩ | ⟨g, cap, cur, rfl, _, _, hn, _⟩
  · exact ⟨none, 0, rfl, Nat.le_refl _⟩
  · exact ⟨_, cap, rfl, hn⟩

/-- Bytes of a string that was turned to a slice. -/
theorem below_bytesWorld (w : World) (e : TypeId) (s : ByteArray) : Below w.heap.size w (Lib.bytesWorld w e s) :=
  ⟨rfl, rfl, rfl, by rw [Lib.bytesWorld_size]; omega, fun k hk => Lib.bytesWorld_at_old w e s k hk⟩

/-- What a row of the statement tells of a slice of bytes that came in. -/
theorem RB.of_row {w : World} {A : Option Addr} {len cap : Nat} {zs : List Int}
    (h : (A = none ∧ len = 0 ∧ cap = 0 ∧ zs = []) ∨ ∃ x, A = some x ∧ len ≤ cap ∧ cap ≤ maxLen ∧ zs.length = cap ∧ (∀ i, i < zs.length → w.cell? (x.add i) = some (.int .u8 (zs.getD i 0))) ∧ ∀ n ∈ zs, (Lit.int .u8 n).wf = true) :
    RB w w.heap.size A len ((zs.take len).map fun z => UInt8.ofNat z.toNat) ∧ len ≤ cap ∧ cap ≤ maxLen := by
  rcases h with ⟨rfl, rfl, rfl, rfl⟩ | ⟨x, rfl, hl, hm, hz, hc, hw⟩
  · exact ⟨RB.nil _ _ _, Nat.le_refl _, by unfold maxLen; omega⟩
  · refine ⟨⟨by simp; omega, fun hn => ?_⟩, hl, hm⟩
    obtain ⟨b, off, spot⟩ := x
    have h0 := hc 0 (by omega)
    have hs : spot = none := by simpa [Addr.add] using World.cell?_spot h0
    subst hs
    have hlt : b < w.heap.size := by have := World.block_lt_of_cell? w _ h0; simpa [Addr.add] using this
    refine ⟨b, off, rfl, hlt, fun j hj => ?_⟩
    have hj' : j < len := by simp at hj; omega
    have h1 := hc j (by omega)
    have hadd : (⟨b, off, none⟩ : Addr).add j = ⟨b, off + j, none⟩ := by unfold Addr.add; split <;> simp_all
    rw [hadd] at h1
    rw [h1]
    have hg : zs.getD j 0 = zs[j]'(by omega) := by simp [List.getD, show j < zs.length by omega]
    have hwf := hw (zs[j]'(by omega)) (List.getElem_mem _)
    have hb : 0 ≤ zs[j]'(by omega) ∧ zs[j]'(by omega) ≤ 255 := by
      simp [Lit.wf, IntKind.min, IntKind.max, IntKind.signed, IntKind.bits] at hwf
      omega
    rw [hg]
    simp only [bv, List.getElem_map, List.getElem_take]
    congr 2
    simp
    omega
end Go.Proofs.YtgihkmofpncobaaDoor
