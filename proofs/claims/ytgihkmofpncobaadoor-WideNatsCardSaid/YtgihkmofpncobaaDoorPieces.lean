/- Rows of bytes in a row that came in: what is known of them. Over any program. -/
import Derived.Test.YtgihkmofpncobaaDoorMem
import Derived.Deep.Matrix
import Derived.SizedLaws
namespace Go.Proofs.YtgihkmofpncobaaDoor
open Go.RowKit Go.ChangeShapes Go.WideShapes

/-- A slice value's first len cells are slices of bytes; all of it lies below block B. -/
def PB (w : World) (B : Nat) (a : Option Addr) (len : Nat) (A : Nat → Option Addr) (L C : Nat → Nat) (bs : Nat → List UInt8) : Prop :=
  (∀ r, r < len → RB w B (A r) (L r) (bs r) ∧ L r ≤ C r ∧ C r ≤ 140737488351232) ∧
  (0 < len → ∃ g o, a = some ⟨g, o, none⟩ ∧ g < B ∧ ∀ r, r < len → w.cell? ⟨g, o + r, none⟩ = some (.slice (A r) (L r) (C r)))

theorem PB.keep {w w' : World} {B : Nat} {a : Option Addr} {len : Nat} {A : Nat → Option Addr} {L C : Nat → Nat} {bs : Nat → List UInt8} (h : PB w B a len A L C bs) (hb : Below B w w') : PB w' B a len A L C bs :=
  ⟨fun r hr => ⟨(h.1 r hr).1.below hb, (h.1 r hr).2⟩, fun hn => by
    obtain ⟨g, o, ha, hg, hc⟩ := h.2 hn
    exact ⟨g, o, ha, hg, fun r hr => (hb.cell (p := ⟨g, o + r, none⟩) hg).trans (hc r hr)⟩⟩

theorem mem_weightsAll {H : Type} {P : Program} {e : TypeId} {d : DataW H} {n : Nat} (hn : n ∈ d.weights P e) : ∀ {l : List (DataW H)}, d ∈ l → n ∈ DataW.weightsAll P e l
  | x :: l, h => by
    simp only [DataW.weightsAll, List.mem_append]
    rcases List.mem_cons.1 h with rfl | h
    · exact .inl hn
    · exact .inr (mem_weightsAll hn h)

theorem open_pieces {H : Type} {enc : TypeId × Value → H} {P : Program} {w : World} {base : Nat} {held : Bool} {t e q : TypeId} {fuel : Nat} {a : Option Addr} {len cap : Nat} {x : DataW H × List MemPlace}
    (ht : P.underlying t = some (.slice e)) (he : P.underlying e = some (.slice q)) (hq : P.underlying q = some (.int .u8)) (ce : P.cellsOf e = 1) (cq : P.cellsOf q = 1) (be : P.bytesOf e = 24) (bq : P.bytesOf q = 1)
    (h : DataW.trod enc P w base (fun _ => true) held fuel t [.slice a len cap] = some x) (hs : (x.1.weights P t).all (· ≤ reachBytes) = true) :
    ∃ A L C bs, PB w w.heap.size a len A L C bs ∧ len ≤ 5864062014634 := by
  rcases Go.Deep.open_int_rows ht he hq ce cq h with ⟨hcs, _⟩ | ⟨a', len', cap', A, L, C, Z, hcs, _, hl, hm, hx, hr⟩
  · simp at hcs
    obtain ⟨rfl, rfl, rfl⟩ := hcs
    exact ⟨fun _ => none, fun _ => 0, fun _ => 0, fun _ => [], ⟨fun r hr => absurd hr (by omega), fun h => absurd h (by omega)⟩, by omega⟩
  · simp at hcs
    obtain ⟨rfl, rfl, rfl⟩ := hcs
    subst hx
    have hall := List.all_eq_true.1 hs
    have hrow : ∀ r, r < len → C r ≤ 140737488351232 ∧ RB w w.heap.size (A r) (L r) (((Z r).take (L r)).map fun z => UInt8.ofNat z.toNat) ∧ L r ≤ C r := by
      intro r hr1
      obtain ⟨h1, h2, h3, h4, h5, h6, h7⟩ := hr r (by omega)
      have hC : C r ≤ 140737488351232 := by
        cases hA : A r with
        | none => have := h6 hA; omega
        | some a' =>
          have hd : Go.Deep.intRow (H := H) .u8 (A r) (L r) (Z r) ∈ (List.range len).map fun r => Go.Deep.intRow (H := H) .u8 (A r) (L r) (Z r) := List.mem_map.2 ⟨r, List.mem_range.2 hr1, rfl⟩
          have hw : C r ∈ (Go.Deep.intRow (H := H) .u8 (A r) (L r) (Z r)).weights P e := by
            rw [hA]
            simp only [Go.Deep.intRow, DataW.weights, he, lits, List.length_map, List.length_take, List.length_drop, bq, List.mem_cons]
            left
            rw [h4]
            omega
          have := hall (C r) (by
            simp only [DataW.weights, ht, List.mem_cons, List.mem_append]
            exact .inr (.inl (mem_weightsAll hw hd)))
          exact of_decide_eq_true this
      refine ⟨hC, (RB.of_row (cap := C r) ?_).1, h2⟩
      · cases hA : A r with
        | none =>
          have hc0 := h6 hA
          have hz : Z r = [] := List.eq_nil_of_length_eq_zero (by omega)
          exact .inl ⟨rfl, by omega, hc0, hz⟩
        | some a' => exact .inr ⟨a', rfl, h2, h3, h4, fun i hi => (h7 a' hA).2 i (by omega), h5⟩
    refine ⟨A, L, C, fun r => ((Z r).take (L r)).map fun z => UInt8.ofNat z.toNat, ⟨fun r hr1 => ⟨(hrow r hr1).2.1, (hrow r hr1).2.2, (hrow r hr1).1⟩, fun hn => ?_⟩, ?_⟩
    · obtain ⟨g, o, spot⟩ := a'
      have h0 := (hr 0 (by omega)).1
      have hsp : spot = none := by simpa [Addr.add] using World.cell?_spot h0
      subst hsp
      have hlt : g < w.heap.size := by have := World.block_lt_of_cell? w _ h0; simpa [Addr.add] using this
      refine ⟨g, o, rfl, hlt, fun r hr1 => ?_⟩
      have h1 := (hr r (by omega)).1
      have hadd : (⟨g, o, none⟩ : Addr).add r = ⟨g, o + r, none⟩ := by unfold Addr.add; split <;> simp_all
      rwa [hadd] at h1
    · have := hall ((len + (cap - len)) * 24) (by
        simp only [DataW.weights, ht, List.length_map, List.length_range, be]
        exact List.mem_cons_self)
      have := of_decide_eq_true this
      unfold reachBytes at this
      omega

/-- The first j pieces. -/
def cat (b : Nat → List UInt8) (j : Nat) : List UInt8 := (List.range j).flatMap b
theorem cat_zero (b : Nat → List UInt8) : cat b 0 = [] := rfl
theorem cat_succ (b : Nat → List UInt8) (j : Nat) : cat b (j + 1) = cat b j ++ b j := by unfold cat; rw [List.range_succ, List.flatMap_append]; simp
def tot (b : Nat → List UInt8) (j : Nat) : Nat := (cat b j).length + j
theorem tot_succ (b : Nat → List UInt8) (j : Nat) : tot b (j + 1) = tot b j + ((b j).length + 1) := by unfold tot; rw [cat_succ]; simp; omega
theorem cat_mono (b : Nat → List UInt8) (i j : Nat) (h : i ≤ j) : (cat b i).length ≤ (cat b j).length := by
  induction j with
  | zero =>
    obtain rfl : i = 0 := by omega
    exact Nat.le_refl _
  | succ j ih =>
    rcases Nat.lt_or_ge i (j + 1) with h1 | h1
    · have := ih (by omega); rw [cat_succ]; simp; omega
    · obtain rfl : i = j + 1 := by omega
      exact Nat.le_refl _
end Go.Proofs.YtgihkmofpncobaaDoor
