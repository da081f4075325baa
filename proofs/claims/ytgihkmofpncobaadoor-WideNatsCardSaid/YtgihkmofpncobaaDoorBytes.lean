/- Bytes: append of one byte to a row of the call's own; bytes as a string. At this seat's types. -/
import Derived.Test.YtgihkmofpncobaaDoorMem
import Derived.Test.YtgihkmofpncobaaDoorProg
import Derived.Laws.BytesArg
import Derived.Deep.AppendLies
import Derived.KernelRfl
import Derived.Lib.AppendStr
import Derived.Laws.CopyOwn
import Derived.Laws.MakeOwn
namespace Go.Proofs.YtgihkmofpncobaaDoor
open Go.RowKit

theorem info_u8 : (Tryd.prog.info? 5).map (fun i => (i.zero, i.size, i.bytes)) = some (some (.int .u8 0), 1, 1) := by kernel_rfl

theorem bv_one (bs : List UInt8) : ∀ u ∈ bs.map bv, u.oneCell' = true := by
  intro u hu
  simp at hu
  obtain ⟨b, _, rfl⟩ := hu
  rfl

/-- Bytes as a string. -/
theorem str_of_RB {w : World} {B : Nat} {A : Option Addr} {n : Nat} {bs : List UInt8} (h : RB w B A n bs) (c : Nat) :
    (convert 86 9 (.slice A n c)).run Tryd.prog w = .ok (.string ⟨bs.toArray⟩) w := by
  obtain ⟨hl, hc⟩ := h
  by_cases hn : 0 < n
  · obtain ⟨g, o, rfl, _, hcell⟩ := hc hn
    rw [run_convert_bytes_arg w 86 5 Tryd.underlying86 Tryd.underlying5 g o n c (bs.map fun b => (b.toNat : Int)) (by simpa using hl)
      (fun i hi => by rw [hcell i (by omega)]; simp [List.getD, show i < bs.length by omega]) 9 Tryd.underlying9]
    congr 3
    simp only [strOfNums, List.map_map]
    congr 1
    have e : ((fun n : Int => UInt8.ofNat n.toNat) ∘ fun b : UInt8 => (b.toNat : Int)) = id := by funext b; simp
    rw [e, List.map_id]
  · obtain rfl : n = 0 := by omega
    obtain rfl : bs = [] := List.eq_nil_of_length_eq_zero hl
    cases A with
    | none => exact run_convert_bytes_nil w 86 5 Tryd.underlying86 Tryd.underlying5 0 c 9 Tryd.underlying9
    | some a =>
      rw [run_convert_bytes_string w 86 9 5 _ 0 c Tryd.underlying86 Tryd.underlying5 Tryd.underlying9, run_bytesToString w a 0 c [] ?_]
      · rfl
      · simpa using run_loadCells_list (P := Tryd.prog) w a [] (fun j v hj => by simp at hj)

/-- So many noughts: behind a name, so that the walk does not turn them. -/
def zrow (c : Nat) : List Value := List.replicate c (bv 0)
theorem zrow_length (c : Nat) : (zrow c).length = c := by simp [zrow]

/-- make of bytes. -/
theorem make_bytes (n c : Nat) (hnc : n ≤ c) (hc : c ≤ 140737488355328) (w : World) :
    (Instr.makeSlice 86 (.int .i64 (n : Int)) (.int .i64 (c : Int))).run Tryd.prog w = .ok (.slice (some ⟨w.heap.size, 0, none⟩) n c) (w.alloc (.cells (zrow c).toArray 5)) := by
  obtain ⟨i, hi, hz, hsize, hby⟩ := info_parts info_u8
  have hb : (i.bytes : Int) * (c : Int) ≤ 281474976710656 := by rw [hby]; omega
  have hr := run_make (P := Tryd.prog) w 86 5 i (.int .u8 0) Tryd.underlying86 hi hz .i64 .i64 n c (by omega) (by omega) hb (by omega)
  simp only [Int.toNat_natCast] at hr
  have e : madeCells (Value.int .u8 0).cells (c * i.size) = (zrow c).toArray := by
    rw [hsize, Nat.mul_one]
    have := toList_madeCells_one (.int .u8 0) c
    exact (Array.toArray_toList (xs := madeCells #[.int .u8 0] c)).symm.trans (by rw [this]; rfl)
  rw [e] at hr
  exact hr

/-- copy of bytes to the head of a block that is known whole. -/
theorem wpList_copyin {ops : Array Oper} {rest : List Oper} {o : Oper} {a : Act} {Q : Exit → Act → World → Prop} {w : World} (hgd : o.guard = none) (d s : Operand)
    (ho : o.op = .call { callee := .builtin .copy, args := #[d, s], argTypes := #[86, 86] })
    (g n dCap sCap : Nat) (A : Option Addr) (hd : a.eval d = .slice (some ⟨g, 0, none⟩) n dCap) (hs : a.eval s = .slice A n sCap) (B : Nat) (bs : List UInt8) (hR : RB w B A n bs)
    (cur : List Value) (hg : Blk w g 5 cur.toArray) (hlen : n ≤ cur.length) (B0 : Nat) (w0 : World) (hb : Below B0 w0 w) (hBg : B0 ≤ g)
    (h : ∀ w', Hid (Blk w' g 5 (bs.map bv ++ cur.drop n).toArray) → Below B0 w0 w' → wpList Tryd.prog ops Q rest (a.put o.dst (goInt n)) w') : wpList Tryd.prog ops Q (o :: rest) a w := by
  obtain ⟨hl, hc⟩ := hR
  have hml : (bs.map bv).length = n := by simpa using hl
  refine wpList_copy_splice hgd d s 86 86 ho 5 Tryd.underlying86 (by kernel_rfl) (some ⟨g, 0, none⟩) A n dCap n sCap hd hs g 0 cur 5 hg (bs.map bv) (by rw [hml]; exact (Nat.min_self n).symm) ?_ (by omega) (bv_one bs) B0 w0 hb hBg ?_
  · intro hp
    obtain ⟨g', o', hA, _, hcell⟩ := hc (by omega)
    refine ⟨rfl, _, hA, fun j v hj => ?_⟩
    have hadd : (⟨g', o', none⟩ : Addr).add j = ⟨g', o' + j, none⟩ := by unfold Addr.add; split <;> simp_all
    have hjl : j < bs.length := by
      rcases Nat.lt_or_ge j bs.length with h' | h'
      · exact h'
      · rw [List.getElem?_eq_none (by simpa using h')] at hj; cases hj
    rw [hadd, hcell j hjl]
    simpa [hjl] using hj
  · intro w' h1 h2
    have h3 := h w' (show _ = _ by
      have := h1.out
      simp only [splice, List.take_zero, List.nil_append, Nat.zero_add, hml] at this
      exact this) h2
    rw [hml]
    exact h3

/-- append of one byte. -/
theorem wpList_push {ops : Array Oper} {rest : List Oper} {o : Oper} {a : Act} {Q : Exit → Act → World → Prop} {w : World} (hgd : o.guard = none) (s x : Operand)
    (ho : o.op = .call { callee := .builtin .append, args := #[s, x], argTypes := #[86, 86] })
    (base : Nat) (v : Value) (n : Nat) (bs : List UInt8) (hs : a.eval s = v) (hown : w.ownsRow base 5 1 v n (bs.map bv))
    (g0 c0 : Nat) (hx : a.eval x = .slice (some ⟨g0, 0, none⟩) 1 c0) (c : UInt8) (hc : w.cell? ⟨g0, 0, none⟩ = some (bv c)) (hn : n < 140737488355328) (hbase : base ≤ w.heap.size)
    (h : ∀ g cap w', w'.ownsRow base 5 1 (.slice (some ⟨g, 0, none⟩) (n + 1) cap) (n + 1) ((bs ++ [c]).map bv) → w.grownBy w' v.ownBlock → (v.ownBlock = some g ∨ g = w.heap.size) → g < w'.heap.size →
      wpList Tryd.prog ops Q rest (a.put o.dst (.slice (some ⟨g, 0, none⟩) (n + 1) cap)) w') : wpList Tryd.prog ops Q (o :: rest) a w := by
  obtain ⟨i, hi, hz, hsize, hby⟩ := info_parts info_u8
  refine wpList_append_lies (P := Tryd.prog) w hgd s x 86 ho base 5 i (.int .u8 0) 1 1 Tryd.underlying86 hi hz hsize hby rfl (by omega) v n (bs.map bv) hs hown ⟨g0, 0, none⟩ 1 c0 [bv c] hx rfl ?_ ?_ (by omega) (by unfold maxLen; omega) (by omega) hbase w.heap.size rfl ?_
  · intro j u hj
    cases j with
    | zero => simp at hj; subst hj; simpa [Addr.add] using hc
    | succ j => simp at hj
  · intro u hu; simp at hu; subst hu; rfl
  · intro g cap w' h1 h2 h3 h4
    exact h g cap w' (by simpa using h1) h2 h3 h4

/-- append of a string. -/
theorem wpList_pushstr {ops : Array Oper} {rest : List Oper} {o : Oper} {a : Act} {Q : Exit → Act → World → Prop} {w : World} (hgd : o.guard = none) (s x : Operand)
    (ho : o.op = .call { callee := .builtin .append, args := #[s, x], argTypes := #[86, 9] })
    (base : Nat) (v : Value) (n : Nat) (bs : List UInt8) (hs : a.eval s = v) (hown : w.ownsRow base 5 1 v n (bs.map bv))
    (l : List UInt8) (hx : a.eval x = .string ⟨l.toArray⟩) (hn : n + l.length < 140737488355328) (hbase : base ≤ w.heap.size)
    (h : ∀ A cap w', w'.ownsRow base 5 1 (.slice A (n + l.length) cap) (n + l.length) ((bs ++ l).map bv) → w.grownBy w' v.ownBlock →
      (∀ c', (convert 86 9 (.slice A (n + l.length) c')).run Tryd.prog w' = .ok (.string ⟨(bs ++ l).toArray⟩) w') →
      wpList Tryd.prog ops Q rest (a.put o.dst (.slice A (n + l.length) cap)) w') : wpList Tryd.prog ops Q (o :: rest) a w := by
  obtain ⟨i, hi, hz, hsize, hby⟩ := info_parts info_u8
  have hsz : (⟨l.toArray⟩ : ByteArray).size = l.length := rfl
  refine Lib.wpList_append_own_string w hgd s x 86 9 ho base 5 i Tryd.underlying86 Tryd.underlying9 hi hz hsize hby v n (bs.map bv) hs hown ⟨l.toArray⟩ hx (by rw [hsz]; unfold maxLen; omega) (by rw [hsz]; omega) hbase ?_
  intro v' w' hown' hg' _
  have hsc : Lib.strCells ⟨l.toArray⟩ = l.map bv := by simp [Lib.strCells]
  rw [hsc, ← List.map_append, hsz] at hown'
  obtain ⟨A, cap, rfl, _⟩ := own_shape hown'
  exact h A cap w' hown' hg' (fun c' => by have := str_of_RB (RB.of_own hown') c'; exact this)

/-- append of one byte, at a step of a region that draws its order. -/
theorem step_push {ops : Array Oper} {o : Oper} {a : Act} {K : Act → World → Prop} {Q : Exit → Act → World → Prop} {E : Prop} {w : World} (hgd : o.guard = none) (s x : Operand)
    (ho : o.op = .call { callee := .builtin .append, args := #[s, x], argTypes := #[86, 86] })
    (base : Nat) (v : Value) (n : Nat) (bs : List UInt8) (hs : a.eval s = v) (hown : w.ownsRow base 5 1 v n (bs.map bv))
    (g0 c0 : Nat) (hx : a.eval x = .slice (some ⟨g0, 0, none⟩) 1 c0) (c : UInt8) (hc : w.cell? ⟨g0, 0, none⟩ = some (bv c)) (hn : n < 140737488355328) (hbase : base ≤ w.heap.size)
    (h : ∀ g cap w', w'.ownsRow base 5 1 (.slice (some ⟨g, 0, none⟩) (n + 1) cap) (n + 1) ((bs ++ [c]).map bv) → w.grownBy w' v.ownBlock → (v.ownBlock = some g ∨ g = w.heap.size) → g < w'.heap.size →
      K (a.put o.dst (.slice (some ⟨g, 0, none⟩) (n + 1) cap)) w') :
    if Region.wanted o (yielded ops a.tmps) = true then Oper.wp Tryd.prog o a w K Q else E := by
  obtain ⟨i, hi, hz, hsize, hby⟩ := info_parts info_u8
  refine step_append_lies (P := Tryd.prog) w hgd s x 86 ho base 5 i (.int .u8 0) 1 1 Tryd.underlying86 hi hz hsize hby rfl (by omega) v n (bs.map bv) hs hown ⟨g0, 0, none⟩ 1 c0 [bv c] hx rfl ?_ ?_ (by omega) (by unfold maxLen; omega) (by omega) hbase w.heap.size rfl ?_
  · intro j u hj
    cases j with
    | zero => simp at hj; subst hj; simpa [Addr.add] using hc
    | succ j => simp at hj
  · intro u hu; simp at hu; subst hu; rfl
  · intro g cap w' h1 h2 h3 h4
    exact h g cap w' (by simpa using h1) h2 h3 h4

end Go.Proofs.YtgihkmofpncobaaDoor
