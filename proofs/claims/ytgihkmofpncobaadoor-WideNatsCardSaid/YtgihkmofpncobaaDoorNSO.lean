/- Rows of steps that came in: what is known of them. Over any program. -/
import Derived.Test.YtgihkmofpncobaaDoorMem
import Derived.Test.YtgihkmofpncobaaDoorPieces
import Derived.Test.YtgihkmofpncobaaDoorFig
import Derived.Deep.Slices
import Derived.SizedLaws
namespace Go.Proofs.YtgihkmofpncobaaDoor
open Go.RowKit Go.ChangeShapes Go.WideShapes Go.Deep

/-- A step: its kind, two places, a number, a shift, a text. -/
structure OpD where
  kind : Int
  a : Int
  b : Int
  n : Nat
  k : Int
  s : List UInt8
instance : Inhabited OpD := ⟨⟨0, 0, 0, 0, 0, []⟩⟩
/-- What is known of a step's parts. -/
def OpOk (o : OpD) : Prop := (Lit.int .i64 o.kind).wf = true ∧ (Lit.int .i64 o.a).wf = true ∧ (Lit.int .i64 o.b).wf = true ∧ (Lit.int .u64 (o.n : Int)).wf = true ∧ (Lit.int .i64 o.k).wf = true ∧ o.s.length ≤ 140737488351232
/-- A slice's first len elements are these steps; they lie below block B. -/
def PQ (w : World) (B : Nat) (a : Option Addr) (len : Nat) (O : Nat → OpD) : Prop :=
  (∀ r, r < len → OpOk (O r)) ∧
  (0 < len → ∃ g o, a = some ⟨g, o, none⟩ ∧ g < B ∧ ∀ r, r < len → w.cell? ⟨g, o + r * 6, none⟩ = some (.int .i64 (O r).kind) ∧ w.cell? ⟨g, o + r * 6 + 1, none⟩ = some (.int .i64 (O r).a) ∧ w.cell? ⟨g, o + r * 6 + 2, none⟩ = some (.int .i64 (O r).b) ∧
    w.cell? ⟨g, o + r * 6 + 3, none⟩ = some (.int .u64 ((O r).n : Int)) ∧ w.cell? ⟨g, o + r * 6 + 4, none⟩ = some (.int .i64 (O r).k) ∧ w.cell? ⟨g, o + r * 6 + 5, none⟩ = some (.string ⟨(O r).s.toArray⟩))
theorem PQ.keep {w w' : World} {B : Nat} {a : Option Addr} {len : Nat} {O : Nat → OpD} (h : PQ w B a len O) (hb : Below B w w') : PQ w' B a len O :=
  ⟨h.1, fun hn => by
    obtain ⟨g, o, ha, hg, hc⟩ := h.2 hn
    refine ⟨g, o, ha, hg, fun r hr => ?_⟩
    obtain ⟨c0, c1, c2, c3, c4, c5⟩ := hc r hr
    exact ⟨(hb.cell (p := ⟨g, _, none⟩) hg).trans c0, (hb.cell (p := ⟨g, _, none⟩) hg).trans c1, (hb.cell (p := ⟨g, _, none⟩) hg).trans c2, (hb.cell (p := ⟨g, _, none⟩) hg).trans c3, (hb.cell (p := ⟨g, _, none⟩) hg).trans c4, (hb.cell (p := ⟨g, _, none⟩) hg).trans c5⟩⟩
theorem open_ops6 {H : Type} {enc : TypeId × Value → H} {P : Program} {w : World} {base : Nat} {held : Bool} {t e : TypeId} {f0 f1 f2 f3 f4 f5 : Field} {fuel : Nat} {a : Option Addr} {len cap : Nat} {x : DataW H × List MemPlace}
    (ht : P.underlying t = some (.slice e)) (he : P.underlying e = some (.struct #[f0, f1, f2, f3, f4, f5])) (h0 : P.underlying f0.type = some (.int .i64)) (h1 : P.underlying f1.type = some (.int .i64)) (h2 : P.underlying f2.type = some (.int .i64))
    (h3 : P.underlying f3.type = some (.int .u64)) (h4 : P.underlying f4.type = some (.int .i64)) (h5 : P.underlying f5.type = some .string)
    (ce : P.cellsOf e = 6) (o0 : f0.offset = 0) (o1 : f1.offset = 1) (o2 : f2.offset = 2) (o3 : f3.offset = 3) (o4 : f4.offset = 4) (o5 : f5.offset = 5)
    (c0 : P.cellsOf f0.type = 1) (c1 : P.cellsOf f1.type = 1) (c2 : P.cellsOf f2.type = 1) (c3 : P.cellsOf f3.type = 1) (c4 : P.cellsOf f4.type = 1) (c5 : P.cellsOf f5.type = 1) (be : P.bytesOf e = 56)
    (h : DataW.trod enc P w base (fun _ => true) held fuel t [.slice a len cap] = some x) (hs : (x.1.weights P t).all (· ≤ reachBytes) = true) :
    ∃ O, PQ w w.heap.size a len O ∧ len ≤ 2513169434843 := by
  rcases open_slice ht h with ⟨hcs, _⟩ | ⟨a', len', cap', m, n, D, Pl, hcs, _, hl, hm, hmm, hx, hr⟩
  · simp at hcs
    obtain ⟨rfl, rfl, rfl⟩ := hcs
    exact ⟨fun _ => default, ⟨fun r hr => absurd hr (by omega), fun h => absurd h (by omega)⟩, by omega⟩
  · simp at hcs
    obtain ⟨rfl, rfl, rfl⟩ := hcs
    subst hx
    simp only [if_true] at hmm
    have hmm' := hmm.symm
    subst hmm'
    have hall := List.all_eq_true.1 hs
    have each : ∀ r, r < len → ∃ y : OpD, OpOk y ∧ w.cell? (a'.add (r * 6)) = some (.int .i64 y.kind) ∧ w.cell? (a'.add (r * 6 + 1)) = some (.int .i64 y.a) ∧ w.cell? (a'.add (r * 6 + 2)) = some (.int .i64 y.b) ∧
        w.cell? (a'.add (r * 6 + 3)) = some (.int .u64 (y.n : Int)) ∧ w.cell? (a'.add (r * 6 + 4)) = some (.int .i64 y.k) ∧ w.cell? (a'.add (r * 6 + 5)) = some (.string ⟨y.s.toArray⟩) := by
      intro r hr1
      obtain ⟨cs', k1, k2⟩ := hr r (by omega)
      rw [ce] at k1
      obtain ⟨_, hlen, hcell⟩ := World.cells?_some k1
      obtain ⟨xs, k, hk, hxy, _, hxl, hf⟩ := DataW.trod_struct he k2
      match xs, hxl, cs', hlen with
      | [y0, y1, y2, y3, y4, y5], _, [v0, v1, v2, v3, v4, v5], _ =>
        have g0 := hf 0 f0 rfl
        have g1 := hf 1 f1 rfl
        have g2 := hf 2 f2 rfl
        have g3 := hf 3 f3 rfl
        have g4 := hf 4 f4 rfl
        have g5 := hf 5 f5 rfl
        simp [o0, o1, o2, o3, o4, o5, c0, c1, c2, c3, c4, c5] at g0 g1 g2 g3 g4 g5
        have e0 := hcell 0 (by omega)
        have e1 := hcell 1 (by omega)
        have e2 := hcell 2 (by omega)
        have e3 := hcell 3 (by omega)
        have e4 := hcell 4 (by omega)
        have e5 := hcell 5 (by omega)
        rw [add_add] at e0 e1 e2 e3 e4 e5
        obtain ⟨kd, ev0, _, w0⟩ := DataW.trod_int h0 g0
        obtain ⟨ia, ev1, _, w1⟩ := DataW.trod_int h1 g1
        obtain ⟨ib, ev2, _, w2⟩ := DataW.trod_int h2 g2
        obtain ⟨un, ev3, _, w3⟩ := DataW.trod_int h3 g3
        obtain ⟨ik, ev4, _, w4⟩ := DataW.trod_int h4 g4
        obtain ⟨st, ev5, ey5, _⟩ := DataW.trod_string h5 g5
        simp at ev0 ev1 ev2 ev3 ev4 ev5
        subst ev0 ev1 ev2 ev3 ev4 ev5
        have hun : 0 ≤ un := by
          simp [Lit.wf] at w3
          exact w3.1
        have hnn : ((un.toNat : Nat) : Int) = un := by omega
        have hst : st.data.toList.length ≤ 140737488351232 := by
          have hw : st.data.toList.length ∈ (D r).weights P e := by
            rw [(Prod.mk.inj hxy).1]
            rw [ey5]
            simp only [List.map_cons, List.map_nil, DataW.weights, he, DataW.weightsEach, List.mem_append, List.mem_cons]
            right; right; right; right; right; left; left; first | trivial | rfl
          have hd : D r ∈ (List.range len).map D := List.mem_map.2 ⟨r, List.mem_range.2 hr1, rfl⟩
          have := hall _ (by
            simp only [DataW.weights, ht, List.mem_cons, List.mem_append]
            exact .inr (.inl (mem_weightsAll hw hd)))
          have := of_decide_eq_true this
          unfold reachBytes at this
          omega
        exact ⟨⟨kd, ia, ib, un.toNat, ik, st.data.toList⟩, ⟨w0, w1, w2, by rw [hnn]; exact w3, w4, hst⟩, by simpa using e0, by simpa using e1, by simpa using e2, by rw [hnn]; simpa using e3, by simpa using e4, by simpa using e5⟩
    obtain ⟨y, hy⟩ := choose_lt each
    refine ⟨y, ⟨fun r hr1 => (hy r hr1).1, fun hn => ?_⟩, ?_⟩
    · obtain ⟨g, o, spot⟩ := a'
      have hcz := (hy 0 (by omega)).2.1
      have hsp : spot = none := by simpa [Addr.add] using World.cell?_spot hcz
      subst hsp
      have hlt : g < w.heap.size := by have := World.block_lt_of_cell? w _ hcz; simpa [Addr.add] using this
      have hadd : ∀ i, (⟨g, o, none⟩ : Addr).add i = ⟨g, o + i, none⟩ := fun i => by unfold Addr.add; split <;> simp_all
      refine ⟨g, o, rfl, hlt, fun r hr1 => ?_⟩
      obtain ⟨_, e0, e1, e2, e3, e4, e5⟩ := hy r hr1
      rw [hadd] at e0 e1 e2 e3 e4 e5
      simp only [Nat.add_assoc]
      exact ⟨e0, e1, e2, e3, e4, e5⟩
    · have := hall ((len + (cap - len)) * 56) (by
        simp only [DataW.weights, ht, List.length_map, List.length_range, be]
        exact List.mem_cons_self)
      have := of_decide_eq_true this
      unfold reachBytes at this
      omega
end Go.Proofs.YtgihkmofpncobaaDoor
