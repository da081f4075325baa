/- The walk of dec.read. -/
import Derived.Test.YtnajondbdeclmaaDoorDecP
import Derived.Test.YtnajondbdeclmaaDoorNatO
import Derived.Test.YtnajondbdeclmaaDoorCalm
import Derived.Test.YtnajondbdeclmaaDoorScope
import Derived.Deep.DeepCutAuto
import Derived.IntWalk
import Derived.WalkSpells
namespace Go.Proofs.YtnajondbdeclmaaDoor
open Go.RowKit
attribute [local go_sem] jumps_normal jumps_exit jumps_ret jumps_panic
set_option linter.unusedSimpArgs false
set_option linter.unusedVariables false

/-- A byte's number. -/
def bt (s : List UInt8) (i : Nat) : Nat := (s.getD i 0).toNat
theorem bget (s : List UInt8) (i : Nat) (h : i < s.length) : ((⟨s.toArray⟩ : ByteArray)[i]'h).toNat = bt s i := by
  unfold bt
  rw [List.getD_eq_getElem?_getD, List.getElem?_eq_getElem h]; rfl
theorem bt_some {s : List UInt8} {i : Nat} {c : UInt8} (h : s[i]? = some c) : bt s i = c.toNat := by unfold bt; rw [List.getD_eq_getElem?_getD, h]; rfl
theorem bt_eq {s : List UInt8} {i : Nat} (h : i < s.length) (c : UInt8) : bt s i = c.toNat ↔ s[i]? = some c := by
  rw [List.getElem?_eq_getElem h]
  unfold bt
  rw [List.getD_eq_getElem?_getD, List.getElem?_eq_getElem h]
  simp only [Option.getD_some, Option.some.injEq]
  exact ⟨fun h => UInt8.toNat_inj.1 h, fun h => by rw [h]⟩
theorem bt_is {s : List UInt8} {i : Nat} (h : i < s.length) (c : UInt8) : (((bt s i : Nat) : Int) == ((c.toNat : Nat) : Int)) = (s[i]? == some c) := by
  rw [Bool.eq_iff_iff, beq_iff_eq, beq_iff_eq, ← bt_eq h c]
  omega
abbrev sv (l : List UInt8) : Value := .string ⟨l.toArray⟩
theorem ext_cut (s : List UInt8) (i k : Nat) : (⟨s.toArray⟩ : ByteArray).extract i k = ⟨(cutL s i k).toArray⟩ := by
  apply ByteArray.ext
  rw [ByteArray.data_extract]
  unfold cutL
  simp
theorem arr_range (t : Array Value) (n : Nat) (h : t.size = n) : t = ((List.range n).map fun i => t.getD i undef).toArray := by
  apply Array.ext
  · simp [h]
  · intro i h1 h2
    simp [h1]
set_option maxRecDepth 100000 in
theorem frm158 (t : Array Value) (h : t.size = 158) {v0 v2 v3 v4 v5 v6 : Value} (e0 : t.getD 0 undef = v0) (e2 : t.getD 2 undef = v2) (e3 : t.getD 3 undef = v3) (e4 : t.getD 4 undef = v4) (e5 : t.getD 5 undef = v5) (e6 : t.getD 6 undef = v6) : ∃ U : Nat → Value, t = List.toArray (v0 :: U 1 :: v2 :: v3 :: v4 :: v5 :: v6 :: U 7 :: U 8 :: U 9 :: U 10 :: U 11 :: U 12 :: U 13 :: U 14 :: U 15 :: U 16 :: U 17 :: U 18 :: U 19 :: U 20 :: U 21 :: U 22 :: U 23 :: U 24 :: U 25 :: U 26 :: U 27 :: U 28 :: U 29 :: U 30 :: U 31 :: U 32 :: U 33 :: U 34 :: U 35 :: U 36 :: U 37 :: U 38 :: U 39 :: U 40 :: U 41 :: U 42 :: U 43 :: U 44 :: U 45 :: U 46 :: U 47 :: U 48 :: U 49 :: U 50 :: U 51 :: U 52 :: U 53 :: U 54 :: U 55 :: U 56 :: U 57 :: U 58 :: U 59 :: U 60 :: U 61 :: U 62 :: U 63 :: U 64 :: U 65 :: U 66 :: U 67 :: U 68 :: U 69 :: U 70 :: U 71 :: U 72 :: U 73 :: U 74 :: U 75 :: U 76 :: U 77 :: U 78 :: U 79 :: U 80 :: U 81 :: U 82 :: U 83 :: U 84 :: U 85 :: U 86 :: U 87 :: U 88 :: U 89 :: U 90 :: U 91 :: U 92 :: U 93 :: U 94 :: U 95 :: U 96 :: U 97 :: U 98 :: U 99 :: U 100 :: U 101 :: U 102 :: U 103 :: U 104 :: U 105 :: U 106 :: U 107 :: U 108 :: U 109 :: U 110 :: U 111 :: U 112 :: U 113 :: U 114 :: U 115 :: U 116 :: U 117 :: U 118 :: U 119 :: U 120 :: U 121 :: U 122 :: U 123 :: U 124 :: U 125 :: U 126 :: U 127 :: U 128 :: U 129 :: U 130 :: U 131 :: U 132 :: U 133 :: U 134 :: U 135 :: U 136 :: U 137 :: U 138 :: U 139 :: U 140 :: U 141 :: U 142 :: U 143 :: U 144 :: U 145 :: U 146 :: U 147 :: U 148 :: U 149 :: U 150 :: U 151 :: U 152 :: U 153 :: U 154 :: U 155 :: U 156 :: U 157 :: []) := by
  refine ⟨fun i => t.getD i undef, ?_⟩
  rw [← e0, ← e2, ← e3, ← e4, ← e5, ← e6]
  exact arr_range t 158 h
/-- A frame of dec.read with i in its slot. -/
def RF (s : List UInt8) (w : World) (i : Nat) (a : Act) : Prop :=
  a.defers = [] ∧ a.tmps.size = 158 ∧ a.tmps.getD 0 undef = sv s ∧ a.tmps.getD 2 undef = .pointer (some ⟨w.heap.size, 0, none⟩) ∧ a.tmps.getD 3 undef = .int .i64 0 ∧ a.tmps.getD 4 undef = .pointer (some ⟨w.heap.size + 1, 0, none⟩) ∧ a.tmps.getD 5 undef = .int .i64 (i : Int)
def RM (l : Nat) : Nat := if l = 0 then 1 else if l = 1 then 3 else 2
/-- What read answers. -/
def litV (s : List UInt8) : Value := match wrongP s with
  | some q => .tuple #[.agg #[.bool false, .string ⟨#[]⟩, .string ⟨#[]⟩, .bool false, .string ⟨#[]⟩], .int .i64 (q : Nat)]
  | none => .tuple #[.agg #[.bool (negP s), sv (wholeP s), sv (behindP s), .bool (underP s), sv (expP s)], .int .i64 (-1)]
theorem RF.mk {s : List UInt8} {w : World} {i : Nat} {a : Act} (h1 : a.defers = []) (h2 : a.tmps.size = 158) (h3 : a.tmps.getD 0 undef = sv s) (h4 : a.tmps.getD 2 undef = .pointer (some ⟨w.heap.size, 0, none⟩)) (h5 : a.tmps.getD 3 undef = .int .i64 0)
    (h6 : a.tmps.getD 4 undef = .pointer (some ⟨w.heap.size + 1, 0, none⟩)) (h7 : a.tmps.getD 5 undef = .int .i64 (i : Int)) : RF s w i a := ⟨h1, h2, h3, h4, h5, h6, h7⟩
theorem RF.open {s : List UInt8} {w : World} {i : Nat} {a : Act} (h : RF s w i a) {v : Value} (h6 : a.tmps.getD 6 undef = v) : ∃ U : Nat → Value, a = { tmps := List.toArray (sv s :: U 1 :: (.pointer (some ⟨w.heap.size, 0, none⟩) : Value) :: (.int .i64 0 : Value) :: (.pointer (some ⟨w.heap.size + 1, 0, none⟩) : Value) :: (.int .i64 (i : Int) : Value) :: v :: U 7 :: U 8 :: U 9 :: U 10 :: U 11 :: U 12 :: U 13 :: U 14 :: U 15 :: U 16 :: U 17 :: U 18 :: U 19 :: U 20 :: U 21 :: U 22 :: U 23 :: U 24 :: U 25 :: U 26 :: U 27 :: U 28 :: U 29 :: U 30 :: U 31 :: U 32 :: U 33 :: U 34 :: U 35 :: U 36 :: U 37 :: U 38 :: U 39 :: U 40 :: U 41 :: U 42 :: U 43 :: U 44 :: U 45 :: U 46 :: U 47 :: U 48 :: U 49 :: U 50 :: U 51 :: U 52 :: U 53 :: U 54 :: U 55 :: U 56 :: U 57 :: U 58 :: U 59 :: U 60 :: U 61 :: U 62 :: U 63 :: U 64 :: U 65 :: U 66 :: U 67 :: U 68 :: U 69 :: U 70 :: U 71 :: U 72 :: U 73 :: U 74 :: U 75 :: U 76 :: U 77 :: U 78 :: U 79 :: U 80 :: U 81 :: U 82 :: U 83 :: U 84 :: U 85 :: U 86 :: U 87 :: U 88 :: U 89 :: U 90 :: U 91 :: U 92 :: U 93 :: U 94 :: U 95 :: U 96 :: U 97 :: U 98 :: U 99 :: U 100 :: U 101 :: U 102 :: U 103 :: U 104 :: U 105 :: U 106 :: U 107 :: U 108 :: U 109 :: U 110 :: U 111 :: U 112 :: U 113 :: U 114 :: U 115 :: U 116 :: U 117 :: U 118 :: U 119 :: U 120 :: U 121 :: U 122 :: U 123 :: U 124 :: U 125 :: U 126 :: U 127 :: U 128 :: U 129 :: U 130 :: U 131 :: U 132 :: U 133 :: U 134 :: U 135 :: U 136 :: U 137 :: U 138 :: U 139 :: U 140 :: U 141 :: U 142 :: U 143 :: U 144 :: U 145 :: U 146 :: U 147 :: U 148 :: U 149 :: U 150 :: U 151 :: U 152 :: U 153 :: U 154 :: U 155 :: U 156 :: U 157 :: []), defers := [] } := by
  obtain ⟨hd, hs, h0, h2, h3, h4, h5⟩ := h
  obtain ⟨U, hU⟩ := frm158 a.tmps hs h0 h2 h3 h4 h5 h6
  refine ⟨U, ?_⟩
  obtain ⟨t, d⟩ := a
  simp only at hd hU
  rw [hd, hU]

end Go.Proofs.YtnajondbdeclmaaDoor
