/- The document's natural numbers: what a long division knows. Plain, and the memory of its walk. -/
import Derived.Test.YtgihkmofpncobaaDoorNRI
import Derived.Test.YtgihkmofpncobaaDoorNRC
namespace Go.Proofs.YtgihkmofpncobaaDoor
open Go.RowKit
set_option linter.unusedSimpArgs false
set_option linter.unusedVariables false

theorem set_same {M : List Nat} {i : Nat} (h : M.getD i 0 = 0) (hi : i < M.length) : M.set i 0 = M := by
  have : M[i] = 0 := by simpa [List.getD, hi] using h
  rw [← this, List.set_getElem_self]
theorem drop_set_cons {M : List Nat} {i a : Nat} (hi : i < M.length) : (M.set i a).drop i = a :: M.drop (i + 1) := by
  rw [List.drop_eq_getElem_cons (by simpa using hi)]
  simp
  rw [List.drop_set_of_lt (by omega)]
/-- One figure more of a quotient. -/
theorem quot_next {x y i a L L' : Nat} {M : List Nat} (hx : x / B4 ^ (i + 1) = y * fval B4 (M.drop (i + 1)) + L) (h : y * a + L' = x / B4 ^ i % B4 + B4 * L) (hi : i < M.length) :
    x / B4 ^ i = y * fval B4 ((M.set i a).drop i) + L' := by
  have h1 : x / B4 ^ i = B4 * (x / B4 ^ (i + 1)) + x / B4 ^ i % B4 := by
    rw [Nat.pow_succ, ← Nat.div_div_eq_div_mul]; exact (Nat.div_add_mod _ _).symm
  rw [drop_set_cons hi, fval_cons, h1, hx, Nat.mul_add, Nat.mul_add]
  have h2 : B4 * (y * fval B4 (M.drop (i + 1))) = y * (B4 * fval B4 (M.drop (i + 1))) := Nat.mul_left_comm _ _ _
  omega
theorem quot_fig {y a L' L0 : Nat} (h : y * a + L' = L0) (h0 : L0 < y * B4) : a < B4 := by
  rcases Nat.lt_or_ge a B4 with h1 | h1
  · exact h1
  · have := Nat.mul_le_mul_left y h1; omega
theorem quot_start {x y i L : Nat} (hL : L < y) : x / B4 ^ i % B4 + B4 * L < y * B4 := by
  have h1 : x / B4 ^ i % B4 < B4 := Nat.mod_lt _ (by decide)
  have h2 : B4 * (L + 1) ≤ B4 * y := Nat.mul_le_mul_left _ hL
  rw [Nat.mul_add, Nat.mul_one, Nat.mul_comm B4 y] at h2
  omega
theorem quot_done {x y L : Nat} {M : List Nat} (hx : x / B4 ^ 0 = y * fval B4 (M.drop 0) + L) (hL : L < y) : fval B4 M = x / y ∧ L = x % y := by
  rw [Nat.pow_zero, Nat.div_one, List.drop_zero] at hx
  have h0 : 0 < y := by omega
  constructor
  · rw [hx, Nat.mul_add_div h0, Nat.div_eq_of_lt hL, Nat.add_zero]
  · rw [hx, Nat.mul_add_mod, Nat.mod_eq_of_lt hL]
theorem RatL.far {w : World} {A : Option Addr} {n c x B i : Nat} (h : RatL w A n c x) (hf : Fresh (B + 1) A) (u : Value) : RatL (w.setCell ⟨B, i, none⟩ u) A n c x := by
  obtain ⟨l, h1, h2, h3, h4⟩ := h
  refine ⟨l, h1, h2, ?_, h4⟩
  rcases h3 with h3 | ⟨g, o, cs, hA, hB, hc⟩
  · exact .inl h3
  · exact .inr ⟨g, o, cs, hA, hB.far (p := ⟨B, i, none⟩) (by have := hf g o hA; show g ≠ B; omega) u, hc⟩
/-- What the walk of Quotient knows of memory: w the world at its start; the row M of the quotient, what is left. -/
structure QSt (w : World) (A A' : Option Addr) (n c m c' : Nat) (M : List Nat) (B : Option Addr) (k d L : Nat) (wr : World) : Prop where
  b0 : Blk wr w.heap.size 31 #[.slice A n c]
  b1 : Blk wr (w.heap.size + 1) 31 #[.slice A' m c']
  b2 : Blk wr (w.heap.size + 1 + 1) 31 #[.slice none 0 0]
  b3 : Blk wr (w.heap.size + 1 + 1 + 1) 31 #[.slice none 0 0]
  bq : Blk wr (w.heap.size + 1 + 1 + 1 + 1) 3 (M.map fv).toArray
  bl : Blk wr (w.heap.size + 1 + 1 + 1 + 1 + 1) 31 #[.slice B k d]
  left : RatL wr B k d L
  fresh : Fresh (w.heap.size + 5) B
  below : Below w.heap.size w wr
section
variable {w : World} {A A' : Option Addr} {n c m c' : Nat} {M : List Nat} {B : Option Addr} {k d L : Nat} {wr w' : World}
theorem QSt.keep (h : QSt w A A' n c m c' M B k d L wr) (hb : Below wr.heap.size wr w') : QSt w A A' n c m c' M B k d L w' :=
  ⟨h.b0.below hb h.b0.lt, h.b1.below hb h.b1.lt, h.b2.below hb h.b2.lt, h.b3.below hb h.b3.lt, h.bq.below hb h.bq.lt, h.bl.below hb h.bl.lt, h.left.below hb, h.fresh, keepb h.below hb⟩
theorem QSt.c0 (h : QSt w A A' n c m c' M B k d L wr) : wr.cell? ⟨w.heap.size, 0, none⟩ = some (.slice A n c) := h.b0.cell 0
theorem QSt.c1 (h : QSt w A A' n c m c' M B k d L wr) : wr.cell? ⟨w.heap.size + 1, 0, none⟩ = some (.slice A' m c') := h.b1.cell 0
theorem QSt.cl (h : QSt w A A' n c m c' M B k d L wr) : wr.cell? ⟨w.heap.size + 1 + 1 + 1 + 1 + 1, 0, none⟩ = some (.slice B k d) := h.bl.cell 0
theorem QSt.fl (h : QSt w A A' n c m c' M B k d L wr) : wr.frozen? ⟨w.heap.size + 1 + 1 + 1 + 1 + 1, 0, none⟩ = false := h.bl.frozen 0
theorem QSt.cq (h : QSt w A A' n c m c' M B k d L wr) {i : Nat} (hi : i < M.length) : wr.cell? ⟨w.heap.size + 1 + 1 + 1 + 1, i, none⟩ = some (fv (M.getD i 0)) := blk_fv h.bq hi
theorem QSt.fq (h : QSt w A A' n c m c' M B k d L wr) (i : Nat) : wr.frozen? ⟨w.heap.size + 1 + 1 + 1 + 1, i, none⟩ = false := h.bq.frozen i
theorem QSt.lt (h : QSt w A A' n c m c' M B k d L wr) : w.heap.size + 6 ≤ wr.heap.size := h.bl.lt
theorem QSt.setL {B2 : Option Addr} {k2 d2 L2 : Nat} (h : QSt w A A' n c m c' M B k d L wr) (hl : RatL wr B2 k2 d2 L2) (hf : Fresh (w.heap.size + 5) B2) :
    QSt w A A' n c m c' M B2 k2 d2 L2 (wr.setCell ⟨w.heap.size + 1 + 1 + 1 + 1 + 1, 0, none⟩ (.slice B2 k2 d2)) :=
  ⟨h.b0.far (by first | (dsimp only; omega) | (simp; done) | (simp; omega)) _, h.b1.far (by first | (dsimp only; omega) | (simp; done) | (simp; omega)) _, h.b2.far (by first | (dsimp only; omega) | (simp; done) | (simp; omega)) _, h.b3.far (by first | (dsimp only; omega) | (simp; done) | (simp; omega)) _, h.bq.far (by first | (dsimp only; omega) | (simp; done) | (simp; omega)) _, h.bl.set1 0 _, hl.set h.bl (by decide) _, hf, h.below.setCell (by first | (dsimp only; omega) | (simp; omega)) _⟩
theorem QSt.setQ (h : QSt w A A' n c m c' M B k d L wr) (i q : Nat) :
    QSt w A A' n c m c' (M.set i q) B k d L (wr.setCell ⟨w.heap.size + 1 + 1 + 1 + 1, i, none⟩ (fv q)) :=
  ⟨h.b0.far (by first | (dsimp only; omega) | (simp; done) | (simp; omega)) _, h.b1.far (by first | (dsimp only; omega) | (simp; done) | (simp; omega)) _, h.b2.far (by first | (dsimp only; omega) | (simp; done) | (simp; omega)) _, h.b3.far (by first | (dsimp only; omega) | (simp; done) | (simp; omega)) _, by rw [← set_fv]; exact h.bq.set1 i (fv q), h.bl.far (by first | (dsimp only; omega) | (simp; done) | (simp; omega)) _, h.left.far h.fresh _, h.fresh, h.below.setCell (by first | (dsimp only; omega) | (simp; omega)) _⟩
end
/-- What Quotient answers. -/
def QuoP (x y : Nat) (w : World) (e : Ending) (w' : World) : Prop :=
  ∃ A n c B m d, e = .returned (.tuple #[.agg #[.slice A n c], .agg #[.slice B m d]]) ∧ RatL w' A n c (x / y) ∧ RatL w' B m d (x % y) ∧ Below w.heap.size w w'
theorem conv_iw (v : Nat) (hv : v < 9223372036854775808) (w : World) : (convert 3 35 (.int .i64 (v : Int))).run Tryd.prog w = .ok (.int .u64 (v : Int)) w := by
  have h : IntKind.u64.wrap (v : Int) = (v : Int) := IntWalk.u64_in _ (by omega)
  go_simp
end Go.Proofs.YtgihkmofpncobaaDoor
