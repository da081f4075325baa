/- A row of bytes of the call's own whose spare cells are bytes too; append of one byte to it. At this seat's types. -/
import Derived.Test.YtdlplmflimleaaaBytes
namespace Go.Proofs.Ytdlplmflimleaaa
open Go.RowKit

/-- A row of the call's own: the bytes bs, and behind them the spare ones. -/
def OwnB (w : World) (base : Nat) (v : Value) (n : Nat) (bs : List UInt8) : Prop :=
  bs.length = n ∧
  ((v = .slice none 0 0 ∧ n = 0) ∨
   ∃ (g : Nat) (cap : Nat) (rest : List UInt8), v = .slice (some ⟨g, 0, none⟩) n cap ∧ base ≤ g ∧ Blk w g 5 ((bs ++ rest).map bv).toArray ∧ n + rest.length = cap ∧ cap ≤ maxLen)

theorem OwnB.nil (w : World) (base : Nat) : OwnB w base (.slice none 0 0) 0 [] := ⟨rfl, .inl ⟨rfl, rfl⟩⟩
theorem OwnB.own {w : World} {base n : Nat} {v : Value} {bs : List UInt8} (h : OwnB w base v n bs) : w.ownsRow base 5 1 v n (bs.map bv) := by
  obtain ⟨hl, h⟩ := h
  refine ⟨by simpa using hl, ?_⟩
  rcases h with h | ⟨g, cap, rest, hv, hb, hg, hc, hm⟩
  · exact .inl h
  · refine .inr ⟨g, cap, _, hv, hb, hg, by omega, hm, by simp; omega, ?_⟩
    simp [hl]
theorem OwnB.kept {w w' : World} {base n : Nat} {v : Value} {bs : List UInt8} {row : Option Nat} (h : OwnB w base v n bs) (hg : w.grownBy w' row) (hne : v.ownBlock = none ∨ v.ownBlock ≠ row) : OwnB w' base v n bs := by
  refine ⟨h.1, ?_⟩
  rcases h.2 with h1 | ⟨g, cap, rest, rfl, hb, hB, hc, hm⟩
  · exact .inl h1
  · refine .inr ⟨g, cap, rest, rfl, hb, ?_, hc, hm⟩
    exact hB.grown hg (by rcases hne with h | h <;> simp [Value.ownBlock] at h ⊢; exact h)
theorem OwnB.below {w w' : World} {base n : Nat} {v : Value} {bs : List UInt8} (h : OwnB w base v n bs) (hb : Below w.heap.size w w') : OwnB w' base v n bs := by
  refine ⟨h.1, ?_⟩
  rcases h.2 with h1 | ⟨g, cap, rest, rfl, hbg, hB, hc, hm⟩
  · exact .inl h1
  · exact .inr ⟨g, cap, rest, rfl, hbg, hB.below hb hB.lt, hc, hm⟩
theorem OwnB.lt {w : World} {base n : Nat} {v : Value} {bs : List UInt8} (h : OwnB w base v n bs) : ∀ k, v.ownBlock = some k → base ≤ k ∧ k < w.heap.size := h.own.lt

theorem zeroCells_bytes (n : Nat) : Builtin.zeroCells (Value.cells (.int .u8 0)) n = ((List.replicate n (0 : UInt8)).map bv).toArray := by
  apply Array.ext
  · simp [Builtin.zeroCells, Value.cells]
  · intro i h1 h2
    simp [Builtin.zeroCells, Value.cells, Nat.mod_one]

/-- append of one byte. -/
theorem run_push (w : World) (ty : TypeId) (base : Nat) (v : Value) (n : Nat) (bs : List UInt8) (hown : OwnB w base v n bs)
    (g0 c0 : Nat) (c : UInt8) (hc : w.cell? ⟨g0, 0, none⟩ = some (bv c)) (hn : n < 140737488355328) (hbase : base ≤ w.heap.size) :
    ∃ g cap w', (Builtin.append_ #[34, 34] ty #[v, .slice (some ⟨g0, 0, none⟩) 1 c0]).run Try.prog w = .ok (.slice (some ⟨g, 0, none⟩) (n + 1) cap) w' ∧
      OwnB w' base (.slice (some ⟨g, 0, none⟩) (n + 1) cap) (n + 1) (bs ++ [c]) ∧ w.grownBy w' v.ownBlock := by
  obtain ⟨i, hi, hz, hsize, hby⟩ := info_parts info_u8
  have hnews : ∀ j u, [bv c][j]? = some u → w.cell? ((⟨g0, 0, none⟩ : Addr).add j) = some u := by
    intro j u hj
    cases j with
    | zero => simp at hj; subst hj; simpa [Addr.add] using hc
    | succ j => simp at hj
  have hl1 : [bv c].length = 1 * i.size := by rw [hsize]; rfl
  obtain ⟨hl, h⟩ := hown
  have e1 : (bs ++ [c]).length = n + 1 := by simp [hl]
  have h63 : n + 1 ≤ maxLen := by unfold maxLen; omega
  -- what a new block holds
  have fresh : ∀ old, (w.drew.alloc (.cells ((bs.map bv).toArray ++ [bv c].toArray ++ Builtin.zeroCells (Value.cells (.int .u8 0)) (grownCap w (n + 1) old 5 - (n + 1))) 5)).heap.size = w.heap.size + 1 ∧
      OwnB (w.drew.alloc (.cells ((bs.map bv).toArray ++ [bv c].toArray ++ Builtin.zeroCells (Value.cells (.int .u8 0)) (grownCap w (n + 1) old 5 - (n + 1))) 5)) base
        (.slice (some ⟨w.heap.size, 0, none⟩) (n + 1) (grownCap w (n + 1) old 5)) (n + 1) (bs ++ [c]) ∧
      ∀ row, w.grownBy (w.drew.alloc (.cells ((bs.map bv).toArray ++ [bv c].toArray ++ Builtin.zeroCells (Value.cells (.int .u8 0)) (grownCap w (n + 1) old 5 - (n + 1))) 5)) row := by
    intro old
    have hge := grownCap_ge w (n + 1) old 5
    have hcm := grownCap_le_maxLen w (n + 1) old 5 h63
    refine ⟨by simp, ⟨e1, .inr ⟨w.heap.size, _, List.replicate (grownCap w (n + 1) old 5 - (n + 1)) 0, rfl, hbase, ?_, by simp; omega, hcm⟩⟩, fun row => ⟨rfl, rfl, rfl, by simp, fun k hk _ => Below.heap_alloc w.drew _ k hk⟩⟩
    have hb : Blk (w.drew.alloc (.cells ((bs.map bv).toArray ++ [bv c].toArray ++ Builtin.zeroCells (Value.cells (.int .u8 0)) (grownCap w (n + 1) old 5 - (n + 1))) 5)) w.heap.size 5 ((bs.map bv).toArray ++ [bv c].toArray ++ Builtin.zeroCells (Value.cells (.int .u8 0)) (grownCap w (n + 1) old 5 - (n + 1))) := heap_alloc_new w.drew _
    rw [zeroCells_bytes] at hb ⊢
    have e : ((bs.map bv).toArray ++ [bv c].toArray ++ ((List.replicate (grownCap w (n + 1) old 5 - (n + 1)) (0 : UInt8)).map bv).toArray) = ((bs ++ [c] ++ List.replicate (grownCap w (n + 1) old 5 - (n + 1)) 0).map bv).toArray := by
      apply Array.ext'
      simp only [Array.toList_append, List.map_append, List.map_cons, List.map_nil]
    rw [e] at hb ⊢
    exact hb
  rcases h with ⟨rfl, rfl⟩ | ⟨g, cap, rest, rfl, hbg, hB, hcr, hcm⟩
  · obtain rfl : bs = [] := List.eq_nil_of_length_eq_zero hl
    have hr := run_append_nil (P := Try.prog) w 34 ty 5 i (.int .u8 0) Try.underlying34 hi hz ⟨g0, 0, none⟩ 1 c0 [bv c] hl1 hnews (by omega) (by omega) (by rw [hby]; omega)
    obtain ⟨_, f2, f3⟩ := fresh 0
    simp only [List.map_nil, Array.empty_append, Nat.zero_add] at f2 f3 hr ⊢
    exact ⟨_, _, _, hr, f2, f3 _⟩
  · by_cases hroom : n + 1 ≤ cap
    · have hr := run_append_room (P := Try.prog) w 34 ty 5 i Try.underlying34 hi g n cap _ hB ⟨g0, 0, none⟩ 1 c0 [bv c] hl1 hnews (fun u hu => by simp at hu; subst hu; rfl) hroom (by rw [hsize]; simp; omega)
      refine ⟨_, _, _, hr, ⟨e1, .inr ⟨g, cap, rest.drop 1, rfl, hbg, ?_, by simp; omega, hcm⟩⟩, ⟨rfl, rfl, rfl, by simp, fun k _ hk => setRow_other w g k _ (fun e => hk (by simp [Value.ownBlock, e]))⟩⟩
      have hs := setRow_heap w g _ (((((bs ++ rest).map bv).toArray).toList.take (n * i.size) ++ [bv c] ++ (((bs ++ rest).map bv).toArray).toList.drop (n * i.size + [bv c].length)).toArray) _ _ hB
      have e2 : ((((bs ++ rest).map bv).toArray).toList.take (n * i.size) ++ [bv c] ++ (((bs ++ rest).map bv).toArray).toList.drop (n * i.size + [bv c].length)) = (bs ++ [c] ++ rest.drop 1).map bv := by
        rw [hsize]
        subst hl
        simp only [Nat.mul_one, List.length_singleton, List.map_append, List.map_cons, List.map_nil, List.map_drop]
        rw [List.take_left' (by simp), show bs.length + 1 = (bs.map bv).length + 1 by simp, List.drop_append]
        simp
      rw [e2] at hs ⊢
      exact hs
    · obtain rfl : cap = n := by omega
      obtain rfl : rest = [] := List.eq_nil_of_length_eq_zero (by omega)
      have holds : ∀ j u, (bs.map bv)[j]? = some u → w.cell? ((⟨g, 0, none⟩ : Addr).add j) = some u := by
        intro j u hj
        have hadd : (⟨g, 0, none⟩ : Addr).add j = ⟨g, j, none⟩ := by unfold Addr.add; split <;> simp_all
        rw [hadd, hB.cell]
        simpa using hj
      have hr := run_append_grow (P := Try.prog) w 34 ty 5 i (.int .u8 0) Try.underlying34 hi hz ⟨g, 0, none⟩ cap cap (bs.map bv) (by rw [hsize]; simpa using hl) holds ⟨g0, 0, none⟩ 1 c0 [bv c] hl1 hnews (by omega) (by omega) (growslice_fits (by omega) (by rw [hby]; omega))
      obtain ⟨_, f2, f3⟩ := fresh cap
      exact ⟨_, _, _, hr, f2, f3 _⟩

/-- append of one byte, as a step. -/
theorem wpList_pushall {ops : Array Oper} {rest : List Oper} {o : Oper} {a : Act} {Q : Exit → Act → World → Prop} {w : World} (hgd : o.guard = none) (s x : Operand)
    (ho : o.op = .call { callee := .builtin .append, args := #[s, x], argTypes := #[34, 34] })
    (base : Nat) (v : Value) (n : Nat) (bs : List UInt8) (hs : a.eval s = v) (hown : OwnB w base v n bs)
    (g0 c0 : Nat) (hx : a.eval x = .slice (some ⟨g0, 0, none⟩) 1 c0) (c : UInt8) (hc : w.cell? ⟨g0, 0, none⟩ = some (bv c)) (hn : n < 140737488355328) (hbase : base ≤ w.heap.size)
    (h : ∀ g cap w', OwnB w' base (.slice (some ⟨g, 0, none⟩) (n + 1) cap) (n + 1) (bs ++ [c]) → w.grownBy w' v.ownBlock →
      wpList Try.prog ops Q rest (a.put o.dst (.slice (some ⟨g, 0, none⟩) (n + 1) cap)) w') : wpList Try.prog ops Q (o :: rest) a w := by
  refine wpList_plain hgd fun K hK => ?_
  obtain ⟨g, cap, w', hr, h1, h2⟩ := run_push w o.type base v n bs hown g0 c0 c hc hn hbase
  unfold Oper.wp execOp
  simp only [ho, resolve, invoke, builtin, Sem.run_bind, Sem.run_pure, Result.andThen_ok, List.map_toArray, List.map_cons, List.map_nil, hs, hx, hr]
  exact hK _ _ (h g cap w' h1 h2)
end Go.Proofs.Ytdlplmflimleaaa
