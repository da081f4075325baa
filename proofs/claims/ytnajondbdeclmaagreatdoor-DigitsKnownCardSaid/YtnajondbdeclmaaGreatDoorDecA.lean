/- The walk of dec.read. -/
import Derived.Test.YtnajondbdeclmaaGreatDoorDecP
import Derived.Test.YtnajondbdeclmaaGreatDoorNatO
import Derived.Test.YtnajondbdeclmaaGreatDoorCalm
import Derived.Test.YtnajondbdeclmaaGreatDoorScope
import Derived.Deep.DeepCutAuto
import Derived.IntWalk
import Derived.WalkSpells
namespace Go.Proofs.YtnajondbdeclmaaGreatDoor
open Go.RowKit
attribute [local go_sem] jumps_normal jumps_exit jumps_ret jumps_panic
set_option linter.unusedSimpArgs false
set_option linter.unusedVariables false

theorem digit_any (c : UInt8) (w : World) : Calls Tryz.prog 138 #[.int .u8 (c.toNat : Int)] w fun e w' => e = .returned (.bool (isD c)) ∧ w = w' := by
  by_cases h1 : 48 ≤ c.toNat
  · by_cases h2 : c.toNat ≤ 57
    · have h : isD c = true := by unfold isD; simp; omega
      rw [h]
      have t1 : decide ((48 : Int) ≤ c.toNat) = true := by simp; omega
      have t2 : decide ((c.toNat : Int) ≤ 57) = true := by simp; omega
      clear h1 h2 h
      go_enter Tryz.func138, Tryz.ntmps138
      go_wp2
      go_ret
      exact ⟨rfl, rfl⟩
    · have h : isD c = false := by unfold isD; simp; omega
      rw [h]
      have t1 : decide ((48 : Int) ≤ c.toNat) = true := by simp; omega
      have t2 : decide ((c.toNat : Int) ≤ 57) = false := by simp; omega
      clear h1 h2 h
      go_enter Tryz.func138, Tryz.ntmps138
      go_wp2
      go_ret
      exact ⟨rfl, rfl⟩
  · have h : isD c = false := by unfold isD; simp; omega
    rw [h]
    have t1 : decide ((48 : Int) ≤ c.toNat) = false := by simp; omega
    clear h1 h
    go_enter Tryz.func138, Tryz.ntmps138
    go_wp2
    go_ret
    exact ⟨rfl, rfl⟩

/-- A byte's number. -/
def bt (s : List UInt8) (i : Nat) : Nat := (s.getD i 0).toNat
theorem bget (s : List UInt8) (i : Nat) (h : i < s.length) : ((⟨s.toArray⟩ : ByteArray)[i]'h).toNat = bt s i := by
  unfold bt
  rw [List.getD_eq_getElem?_getD, List.getElem?_eq_getElem h]; rfl
theorem bt_some {s : List UInt8} {i : Nat} {c : UInt8} (h : s[i]? = some c) : bt s i = c.toNat := by unfold bt; rw [List.getD_eq_getElem?_getD, h]; rfl
theorem bt_eq {s : List UInt8} {i : Nat} (h : i < s.length) (c : UInt8) : bt s i = c.toNat ↔ s[i]? = some c := by
  rw [List.getElem?_eq_getElem h]
  unfold bt
  rw [List.getD_eq_getElem?_getD, List.getElem?_eq_getElem h]
  simp only [Option.getD_some, Option.some.injEq]
  exact ⟨fun h => UInt8.toNat_inj.1 h, fun h => by rw [h]⟩
theorem bt_is {s : List UInt8} {i : Nat} (h : i < s.length) (c : UInt8) : (((bt s i : Nat) : Int) == ((c.toNat : Nat) : Int)) = (s[i]? == some c) := by
  rw [Bool.eq_iff_iff, beq_iff_eq, beq_iff_eq, ← bt_eq h c]
  omega
theorem digit_at (s : List UInt8) (i : Nat) (h : i < s.length) (w : World) : Calls Tryz.prog 138 #[.int .u8 ((bt s i : Nat) : Int)] w fun e w' => e = .returned (.bool (dAt s i)) ∧ w = w' := by
  have h1 := digit_any s[i] w
  rw [dAt_get h, show bt s i = s[i].toNat by rw [← bget s i h]; rfl]
  exact h1
abbrev sv (l : List UInt8) : Value := .string ⟨l.toArray⟩
theorem ext_cut (s : List UInt8) (i k : Nat) : (⟨s.toArray⟩ : ByteArray).extract i k = ⟨(cutL s i k).toArray⟩ := by
  apply ByteArray.ext
  rw [ByteArray.data_extract]
  unfold cutL
  simp
theorem arr_range (t : Array Value) (n : Nat) (h : t.size = n) : t = ((List.range n).map fun i => t.getD i undef).toArray := by
  apply Array.ext
  · simp [h]
  · intro i h1 h2
    simp [h1]
set_option maxRecDepth 100000 in
theorem frm158 (t : Array Value) (h : t.size = 158) {v0 v2 v3 v4 v5 v6 : Value} (e0 : t.getD 0 undef = v0) (e2 : t.getD 2 undef = v2) (e3 : t.getD 3 undef = v3) (e4 : t.getD 4 undef = v4) (e5 : t.getD 5 undef = v5) (e6 : t.getD 6 undef = v6) : ∃ U : Nat → Value, t = List.toArray (v0 :: U 1 :: v2 :: v3 :: v4 :: v5 :: v6 :: U 7 :: U 8 :: U 9 :: U 10 :: U 11 :: U 12 :: U 13 :: U 14 :: U 15 :: U 16 :: U 17 :: U 18 :: U 19 :: U 20 :: U 21 :: U 22 :: U 23 :: U 24 :: U 25 :: U 26 :: U 27 :: U 28 :: U 29 :: U 30 :: U 31 :: U 32 :: U 33 :: U 34 :: U 35 :: U 36 :: U 37 :: U 38 :: U 39 :: U 40 :: U 41 :: U 42 :: U 43 :: U 44 :: U 45 :: U 46 :: U 47 :: U 48 :: U 49 :: U 50 :: U 51 :: U 52 :: U 53 :: U 54 :: U 55 :: U 56 :: U 57 :: U 58 :: U 59 :: U 60 :: U 61 :: U 62 :: U 63 :: U 64 :: U 65 :: U 66 :: U 67 :: U 68 :: U 69 :: U 70 :: U 71 :: U 72 :: U 73 :: U 74 :: U 75 :: U 76 :: U 77 :: U 78 :: U 79 :: U 80 :: U 81 :: U 82 :: U 83 :: U 84 :: U 85 :: U 86 :: U 87 :: U 88 :: U 89 :: U 90 :: U 91 :: U 92 :: U 93 :: U 94 :: U 95 :: U 96 :: U 97 :: U 98 :: U 99 :: U 100 :: U 101 :: U 102 :: U 103 :: U 104 :: U 105 :: U 106 :: U 107 :: U 108 :: U 109 :: U 110 :: U 111 :: U 112 :: U 113 :: U 114 :: U 115 :: U 116 :: U 117 :: U 118 :: U 119 :: U 120 :: U 121 :: U 122 :: U 123 :: U 124 :: U 125 :: U 126 :: U 127 :: U 128 :: U 129 :: U 130 :: U 131 :: U 132 :: U 133 :: U 134 :: U 135 :: U 136 :: U 137 :: U 138 :: U 139 :: U 140 :: U 141 :: U 142 :: U 143 :: U 144 :: U 145 :: U 146 :: U 147 :: U 148 :: U 149 :: U 150 :: U 151 :: U 152 :: U 153 :: U 154 :: U 155 :: U 156 :: U 157 :: []) := by
  refine ⟨fun i => t.getD i undef, ?_⟩
  rw [← e0, ← e2, ← e3, ← e4, ← e5, ← e6]
  exact arr_range t 158 h
/-- The boxes of dec.read: the result's, the literal's. -/
def RD (w : World) (B : Nat) (c0 : Bool) (c1 c2 : List UInt8) (c3 : Bool) (c4 : List UInt8) (W : World) : Prop :=
  Blk W B 144 #[.bool false, .string ⟨#[]⟩, .string ⟨#[]⟩, .bool false, .string ⟨#[]⟩] ∧ Blk W (B + 1) 144 #[.bool c0, sv c1, sv c2, .bool c3, sv c4] ∧ Below w.heap.size w W
theorem RD.keep {w W W' : World} {B : Nat} {c0 c3 : Bool} {c1 c2 c4 : List UInt8} (h : RD w B c0 c1 c2 c3 c4 W) (hb : Below W.heap.size W W') : RD w B c0 c1 c2 c3 c4 W' :=
  ⟨h.1.below hb h.1.lt, h.2.1.below hb h.2.1.lt, keepb h.2.2 hb⟩
/-- A frame of dec.read with i in its slot. -/
def RF (s : List UInt8) (w : World) (i : Nat) (a : Act) : Prop :=
  a.defers = [] ∧ a.tmps.size = 158 ∧ a.tmps.getD 0 undef = sv s ∧ a.tmps.getD 2 undef = .pointer (some ⟨w.heap.size, 0, none⟩) ∧ a.tmps.getD 3 undef = .int .i64 0 ∧ a.tmps.getD 4 undef = .pointer (some ⟨w.heap.size + 1, 0, none⟩) ∧ a.tmps.getD 5 undef = .int .i64 (i : Int)
/-- What holds at a label: 0 wrong, 1 point, 2 ten. -/
def RJ (s : List UInt8) (w : World) (l : Nat) (a : Act) (W : World) : Prop :=
  (l = 0 ∧ ∃ (q : Nat) (c0 : Bool) (c1 c2 : List UInt8) (c3 : Bool) (c4 : List UInt8), wrongP s = some q ∧ RF s w q a ∧ RD w w.heap.size c0 c1 c2 c3 c4 W) ∨
  (l = 1 ∧ dAt s (p0 s) = true ∧ RF s w (p1 s) a ∧ a.tmps.getD 6 undef = .int .i64 ((p0 s : Nat) : Int) ∧ RD w w.heap.size (negP s) [] [] false [] W) ∨
  (l = 2 ∧ dAt s (p0 s) = true ∧ (pt s = true → dAt s (p1 s + 1) = true) ∧ RF s w (p2 s) a ∧ RD w w.heap.size (negP s) (wholeP s) (behindP s) false [] W)
def RM (l : Nat) : Nat := if l = 0 then 1 else if l = 1 then 3 else 2
/-- What read answers. -/
def litV (s : List UInt8) : Value := match wrongP s with
  | some q => .tuple #[.agg #[.bool false, .string ⟨#[]⟩, .string ⟨#[]⟩, .bool false, .string ⟨#[]⟩], .int .i64 (q : Nat)]
  | none => .tuple #[.agg #[.bool (negP s), sv (wholeP s), sv (behindP s), .bool (underP s), sv (expP s)], .int .i64 (-1)]
theorem RJ.wrong {s : List UInt8} {w : World} {q : Nat} {c0 : Bool} {c1 c2 : List UInt8} {c3 : Bool} {c4 : List UInt8} {a : Act} {W : World} (hq : wrongP s = some q) (hF : RF s w q a) (hd : RD w w.heap.size c0 c1 c2 c3 c4 W) : RJ s w 0 a W := .inl ⟨rfl, q, c0, c1, c2, c3, c4, hq, hF, hd⟩
theorem RJ.point {s : List UInt8} {w : World} {a : Act} {W : World} (h0 : dAt s (p0 s) = true) (hF : RF s w (p1 s) a) (h6 : a.tmps.getD 6 undef = .int .i64 ((p0 s : Nat) : Int)) (hd : RD w w.heap.size (negP s) [] [] false [] W) : RJ s w 1 a W := .inr (.inl ⟨rfl, h0, hF, h6, hd⟩)
theorem RJ.ten {s : List UInt8} {w : World} {a : Act} {W : World} (h0 : dAt s (p0 s) = true) (h1 : pt s = true → dAt s (p1 s + 1) = true) (hF : RF s w (p2 s) a) (hd : RD w w.heap.size (negP s) (wholeP s) (behindP s) false [] W) : RJ s w 2 a W := .inr (.inr ⟨rfl, h0, h1, hF, hd⟩)
theorem RF.mk {s : List UInt8} {w : World} {i : Nat} {a : Act} (h1 : a.defers = []) (h2 : a.tmps.size = 158) (h3 : a.tmps.getD 0 undef = sv s) (h4 : a.tmps.getD 2 undef = .pointer (some ⟨w.heap.size, 0, none⟩)) (h5 : a.tmps.getD 3 undef = .int .i64 0)
    (h6 : a.tmps.getD 4 undef = .pointer (some ⟨w.heap.size + 1, 0, none⟩)) (h7 : a.tmps.getD 5 undef = .int .i64 (i : Int)) : RF s w i a := ⟨h1, h2, h3, h4, h5, h6, h7⟩
theorem RF.open {s : List UInt8} {w : World} {i : Nat} {a : Act} (h : RF s w i a) {v : Value} (h6 : a.tmps.getD 6 undef = v) : ∃ U : Nat → Value, a = { tmps := List.toArray (sv s :: U 1 :: (.pointer (some ⟨w.heap.size, 0, none⟩) : Value) :: (.int .i64 0 : Value) :: (.pointer (some ⟨w.heap.size + 1, 0, none⟩) : Value) :: (.int .i64 (i : Int) : Value) :: v :: U 7 :: U 8 :: U 9 :: U 10 :: U 11 :: U 12 :: U 13 :: U 14 :: U 15 :: U 16 :: U 17 :: U 18 :: U 19 :: U 20 :: U 21 :: U 22 :: U 23 :: U 24 :: U 25 :: U 26 :: U 27 :: U 28 :: U 29 :: U 30 :: U 31 :: U 32 :: U 33 :: U 34 :: U 35 :: U 36 :: U 37 :: U 38 :: U 39 :: U 40 :: U 41 :: U 42 :: U 43 :: U 44 :: U 45 :: U 46 :: U 47 :: U 48 :: U 49 :: U 50 :: U 51 :: U 52 :: U 53 :: U 54 :: U 55 :: U 56 :: U 57 :: U 58 :: U 59 :: U 60 :: U 61 :: U 62 :: U 63 :: U 64 :: U 65 :: U 66 :: U 67 :: U 68 :: U 69 :: U 70 :: U 71 :: U 72 :: U 73 :: U 74 :: U 75 :: U 76 :: U 77 :: U 78 :: U 79 :: U 80 :: U 81 :: U 82 :: U 83 :: U 84 :: U 85 :: U 86 :: U 87 :: U 88 :: U 89 :: U 90 :: U 91 :: U 92 :: U 93 :: U 94 :: U 95 :: U 96 :: U 97 :: U 98 :: U 99 :: U 100 :: U 101 :: U 102 :: U 103 :: U 104 :: U 105 :: U 106 :: U 107 :: U 108 :: U 109 :: U 110 :: U 111 :: U 112 :: U 113 :: U 114 :: U 115 :: U 116 :: U 117 :: U 118 :: U 119 :: U 120 :: U 121 :: U 122 :: U 123 :: U 124 :: U 125 :: U 126 :: U 127 :: U 128 :: U 129 :: U 130 :: U 131 :: U 132 :: U 133 :: U 134 :: U 135 :: U 136 :: U 137 :: U 138 :: U 139 :: U 140 :: U 141 :: U 142 :: U 143 :: U 144 :: U 145 :: U 146 :: U 147 :: U 148 :: U 149 :: U 150 :: U 151 :: U 152 :: U 153 :: U 154 :: U 155 :: U 156 :: U 157 :: []), defers := [] } := by
  obtain ⟨hd, hs, h0, h2, h3, h4, h5⟩ := h
  obtain ⟨U, hU⟩ := frm158 a.tmps hs h0 h2 h3 h4 h5 h6
  refine ⟨U, ?_⟩
  obtain ⟨t, d⟩ := a
  simp only at hd hU
  rw [hd, hU]

set_option maxRecDepth 100000 in
set_option maxHeartbeats 1000000 in
theorem read_any (s : List UInt8) (w : World) (hs : s.length ≤ 140737488353000) :
    Calls Tryz.prog 113 #[.string ⟨s.toArray⟩] w fun e w' => e = .returned (litV s) ∧ Below w.heap.size w w' := by
  go_enter Tryz.func113, Tryz.ntmps113
  go_wp2_with fail
  refine wp_scope_down (RJ s w) RM 100 (fun l rest a W hf hJ => ?_) (fun H => ?_) ?_
  · rcases hJ with ⟨rfl, hJ⟩ | ⟨rfl, hJ⟩ | ⟨rfl, hJ⟩ <;> exact ⟨_, (Option.some.inj hf).symm⟩
  · have HH := Lib.hid H
    clear H
    have hlen : ((s.length : Nat) : Int) ≤ 140737488353000 := by omega
    have HP0L := Lib.hid (p0_le (s := s))
    have hneg : (0 < s.length ∧ (((bt s 0 : Nat) : Int) == 45) = true ∧ negP s = true ∧ p0 s = 1) ∨ (((s.length = 0) ∨ (0 < s.length ∧ (((bt s 0 : Nat) : Int) == 45) = false)) ∧ negP s = false ∧ p0 s = 0) := by
      unfold negP p0
      rcases Nat.eq_zero_or_pos s.length with h | h
      · right
        rw [List.getElem?_eq_none (by omega)]
        exact ⟨.inl h, rfl, rfl⟩
      · have k1 : (((bt s 0 : Nat) : Int) == 45) = (s[0]? == some 45) := bt_is h 45
        cases hh : s[0]? == some 45 with
        | true => left; rw [k1, hh]; exact ⟨h, rfl, rfl, by rw [if_pos (by simpa using hh)]⟩
        | false => right; rw [k1, hh]; exact ⟨.inr ⟨h, rfl⟩, rfl, by rw [if_neg (by simpa using hh)]⟩
    have hB0 := ((Below.refl _ w).alloc (Nat.le_refl _) (.cells #[.bool false, .string ⟨#[]⟩, .string ⟨#[]⟩, .bool false, .string ⟨#[]⟩] 144)).alloc (by simp) (.cells #[.bool false, .string ⟨#[]⟩, .string ⟨#[]⟩, .bool false, .string ⟨#[]⟩] 144)
    have hB1 := ((Below.refl _ w).alloc (Nat.le_refl _) (.cells #[.bool false, .string ⟨#[]⟩, .string ⟨#[]⟩, .bool false, .string ⟨#[]⟩] 144)).alloc (by simp) (.cells #[.bool true, .string ⟨#[]⟩, .string ⟨#[]⟩, .bool false, .string ⟨#[]⟩] 144)
    have HR0 := Lib.hid (show RD w w.heap.size false [] [] false [] _ from ⟨(Blk.new w 144 #[.bool false, .string ⟨#[]⟩, .string ⟨#[]⟩, .bool false, .string ⟨#[]⟩]).alloc _, (by have := Blk.new (w.alloc (.cells #[.bool false, .string ⟨#[]⟩, .string ⟨#[]⟩, .bool false, .string ⟨#[]⟩] 144)) 144 (#[.bool false, .string ⟨#[]⟩, .string ⟨#[]⟩, .bool false, .string ⟨#[]⟩]); rwa [World.size_alloc] at this), hB0⟩)
    have HR1 := Lib.hid (show RD w w.heap.size true [] [] false [] _ from ⟨(Blk.new w 144 #[.bool false, .string ⟨#[]⟩, .string ⟨#[]⟩, .bool false, .string ⟨#[]⟩]).alloc _, (by have := Blk.new (w.alloc (.cells #[.bool false, .string ⟨#[]⟩, .string ⟨#[]⟩, .bool false, .string ⟨#[]⟩] 144)) 144 (#[.bool true, .string ⟨#[]⟩, .string ⟨#[]⟩, .bool false, .string ⟨#[]⟩]); rwa [World.size_alloc] at this), hB1⟩)
    clear hB0 hB1
    rcases hneg with ⟨hl, k1, hn, hp⟩ | ⟨hor, hn, hp⟩
    · have hb := bget s 0 hl
      have hI : (0 : Int) < ((s.length : Nat) : Int) := by omega
      have u1 : decide (0 < s.length) = true := by simpa using hl
      have HN := Lib.hid hn
      have HP := Lib.hid hp
      clear hn hp
      have hsl : ((s.length : Nat) : Int) ≤ 140737488353000 := hlen
      cases hd0 : dAt s 1 with
      | false =>
        have HW : Go.RowKit.Hid (wrongP s = some 1) := Lib.hid (by unfold wrongP; rw [HP.out, if_pos hd0])
        rcases Nat.lt_or_ge 1 s.length with hlt | hge
        · have v1 : ((1 : Int) == ((s.length : Nat) : Int)) = false := by simp; omega
          have hbI := bget s 1 hlt
          have hII : (1 : Int) < ((s.length : Nat) : Int) := by omega
          have HDG := Lib.hid (fun W => digit_at s 1 hlt W)
          rw [hd0] at HDG
          clear hd0
          go_wp2_with fail
          refine (HDG.out _).mono ?_
          rintro e w' ⟨rfl, rfl⟩
          go_wp2_with fail
          go_step3
          exact ⟨⟨_, rfl⟩, RJ.wrong HW.out (RF.mk rfl rfl rfl rfl rfl rfl rfl) HR1.out, by decide⟩
        · have hee : s.length = 1 := by have := HP0L.out; rw [HP.out] at this; omega
          have v1 : ((1 : Int) == ((s.length : Nat) : Int)) = true := by rw [hee]; rfl
          have HEE := Lib.hid hee
          clear hd0 hee
          go_wp2_with fail
          go_step3
          exact ⟨⟨_, rfl⟩, RJ.wrong HW.out (RF.mk rfl rfl rfl rfl rfl rfl rfl) HR1.out, by decide⟩
      | true =>
        have hlt := dAt_lt hd0
        have v1 : ((1 : Int) == ((s.length : Nat) : Int)) = false := by simp; omega
        have hbI := bget s 1 hlt
        have hII : (1 : Int) < ((s.length : Nat) : Int) := by omega
        have HDG := Lib.hid (fun W => digit_at s 1 hlt W)
        rw [hd0] at HDG
        have H0 : Go.RowKit.Hid (dAt s (p0 s) = true) := Lib.hid (by rw [HP.out]; exact hd0)
        have HPL := Lib.hid (show 1 ≤ s.length by omega)
        have k48 : (((bt s 1 : Nat) : Int) == 48) = (s[1]? == some 48) := bt_is hlt 48
        clear hd0
        cases hz : s[1]? == some 48 with
        | true =>
          have HP1 := Lib.hid (show p1 s = 1 + 1 by unfold p1; rw [HP.out, if_pos (by simpa using hz)])
          rw [hz] at k48
          clear hz
          go_wp2_with fail
          refine (HDG.out _).mono ?_
          rintro e w' ⟨rfl, rfl⟩
          go_wp2_with fail
          go_step3
          refine ⟨⟨_, rfl⟩, ?_, by decide⟩
          exact RJ.point H0.out (RF.mk rfl rfl rfl rfl rfl rfl (by rw [HP1.out]; rfl)) (by rw [HP.out]; rfl) (by rw [HN.out]; exact HR1.out)
        | false =>
          have HP1 := Lib.hid (show p1 s = ov s 1 by unfold p1; rw [HP.out, if_neg (by simpa using hz)])
          rw [hz] at k48
          clear hz
          go_wp2_with fail
          refine (HDG.out _).mono ?_
          rintro e w' ⟨rfl, rfl⟩
          go_wp2_with fail
          go_loop [5] (fun v => ∃ k : Nat, v = .int .i64 (k : Int) ∧ 1 ≤ k ∧ k ≤ ov s 1 ∧ k ≤ s.length) (fun v => s.length - (intOf v).toNat)
          case atStart => exact ⟨1, by go_num, Nat.le_refl _, ov_ge _ _, HPL.out⟩
          case round =>
            obtain ⟨k, rfl, hk1, hk2, hk3⟩ := hrel
            have hkl : ((k : Nat) : Int) ≤ ((s.length : Nat) : Int) := by omega
            cases hdk : dAt s k with
            | true =>
              have hlk := dAt_lt hdk
              have u1 : decide (((k : Nat) : Int) < ((s.length : Nat) : Int)) = true := by simp; omega
              have u2 : decide (k < s.length) = true := by simpa using hlk
              have hbk := bget s k hlk
              have HDG := Lib.hid (fun W => digit_at s k hlk W)
              rw [hdk] at HDG
              have HN := Lib.hid (show k + 1 ≤ ov s 1 by
                have e1 := ov_ov (s := s) hk1 hk2
                have e2 := ov_at hdk
                omega)
              have HKA := Lib.hid (show 1 ≤ k + 1 ∧ k + 1 ≤ s.length from ⟨by omega, hlk⟩)
              have hki : ((k : Nat) : Int) < ((s.length : Nat) : Int) := by omega
              have HM := Lib.hid hlk
              clear hk1 hk2 hk3 hdk
              go_wp2_with fail
              refine (HDG.out _).mono ?_
              rintro e w' ⟨rfl, rfl⟩
              go_wp2_with fail
              go_round
              case rel => exact ⟨k + 1, by go_num, HKA.out.1, HN.out, HKA.out.2⟩
              case measure => have := HM.out; simp [intOf]; omega
            | false =>
              have hov : ov s 1 = k := by rw [← ov_ov hk1 hk2, ov_no hdk]
              have hstop : (decide (((k : Nat) : Int) < ((s.length : Nat) : Int)) = false ∧ decide (k < s.length) = false ∧ k = s.length) ∨ (decide (((k : Nat) : Int) < ((s.length : Nat) : Int)) = true ∧ decide (k < s.length) = true ∧ k < s.length) := by
                rcases Nat.lt_or_ge k s.length with h | h
                · right; exact ⟨by simp; omega, by simpa using h, h⟩
                · left; exact ⟨by simp; omega, by simpa using h, by omega⟩
              have HDK := Lib.hid hdk
              have HOV := Lib.hid hov
              have HK1 := Lib.hid hk1
              clear hdk hov hk2 hk3
              have HPK := Lib.hid (show p1 s = k by rw [HP1.out]; exact HOV.out)
              clear hk1
              rcases hstop with ⟨u1, u2, hkk⟩ | ⟨u1, u2, hkk⟩
              · clear hkk
                go_wp2_with fail
                go_step3
                refine wp_back (by assumption) ?_
                refine HH.out 1 _ _ _ (by decide) rfl ?_
                exact RJ.point H0.out (RF.mk rfl rfl rfl rfl rfl rfl (by rw [HPK.out]; rfl)) (by rw [HP.out]; rfl) (by rw [HN.out]; exact HR1.out)
              · have hbk := bget s k hkk
                have HDG := Lib.hid (fun W => digit_at s k hkk W)
                rw [HDK.out] at HDG
                have hki : ((k : Nat) : Int) < ((s.length : Nat) : Int) := by omega
                go_wp2_with fail
                refine (HDG.out _).mono ?_
                rintro e w' ⟨rfl, rfl⟩
                go_wp2_with fail
                go_step3
                refine wp_back (by assumption) ?_
                refine HH.out 1 _ _ _ (by decide) rfl ?_
                exact RJ.point H0.out (RF.mk rfl rfl rfl rfl rfl rfl (by rw [HPK.out]; rfl)) (by rw [HP.out]; rfl) (by rw [HN.out]; exact HR1.out)
    · have HN := Lib.hid hn
      have HP := Lib.hid hp
      clear hn hp
      have hsgn : (decide ((0 : Int) < ((s.length : Nat) : Int)) = false ∧ decide (0 < s.length) = false) ∨ (0 < s.length ∧ (((bt s 0 : Nat) : Int) == 45) = false) := by
        rcases hor with h | h
        · left; rw [h]; exact ⟨rfl, rfl⟩
        · right; exact h
      clear hor
      rcases hsgn with ⟨u1, u2⟩ | ⟨hl, k1⟩
      · have h00 : s.length = 0 := by have := of_decide_eq_false u2; omega
        have v1 : ((0 : Int) == ((s.length : Nat) : Int)) = true := by rw [h00]; rfl
        have HW : Go.RowKit.Hid (wrongP s = some 0) := Lib.hid (by unfold wrongP; rw [HP.out, if_pos (dAt_ge (by omega))])
        have HZ := Lib.hid h00
        clear h00
        go_wp2_with fail
        go_step3
        exact ⟨⟨_, rfl⟩, RJ.wrong HW.out (RF.mk rfl rfl rfl rfl rfl rfl rfl) HR0.out, by decide⟩
      · have hb := bget s 0 hl
        have hI : (0 : Int) < ((s.length : Nat) : Int) := by omega
        have u1 : decide (0 < s.length) = true := by simpa using hl
        have hsl : ((s.length : Nat) : Int) ≤ 140737488353000 := hlen
        cases hd0 : dAt s 0 with
        | false =>
          have HW : Go.RowKit.Hid (wrongP s = some 0) := Lib.hid (by unfold wrongP; rw [HP.out, if_pos hd0])
          rcases Nat.lt_or_ge 0 s.length with hlt | hge
          · have v1 : ((0 : Int) == ((s.length : Nat) : Int)) = false := by simp; omega
            have hbI := bget s 0 hlt
            have hII : (0 : Int) < ((s.length : Nat) : Int) := by omega
            have HDG := Lib.hid (fun W => digit_at s 0 hlt W)
            rw [hd0] at HDG
            clear hd0
            go_wp2_with fail
            refine (HDG.out _).mono ?_
            rintro e w' ⟨rfl, rfl⟩
            go_wp2_with fail
            go_step3
            exact ⟨⟨_, rfl⟩, RJ.wrong HW.out (RF.mk rfl rfl rfl rfl rfl rfl rfl) HR0.out, by decide⟩
          · have hee : s.length = 0 := by have := HP0L.out; rw [HP.out] at this; omega
            have v1 : ((0 : Int) == ((s.length : Nat) : Int)) = true := by rw [hee]; rfl
            have HEE := Lib.hid hee
            clear hd0 hee
            go_wp2_with fail
            go_step3
            exact ⟨⟨_, rfl⟩, RJ.wrong HW.out (RF.mk rfl rfl rfl rfl rfl rfl rfl) HR0.out, by decide⟩
        | true =>
          have hlt := dAt_lt hd0
          have v1 : ((0 : Int) == ((s.length : Nat) : Int)) = false := by simp; omega
          have hbI := bget s 0 hlt
          have hII : (0 : Int) < ((s.length : Nat) : Int) := by omega
          have HDG := Lib.hid (fun W => digit_at s 0 hlt W)
          rw [hd0] at HDG
          have H0 : Go.RowKit.Hid (dAt s (p0 s) = true) := Lib.hid (by rw [HP.out]; exact hd0)
          have HPL := Lib.hid (show 0 ≤ s.length by omega)
          have k48 : (((bt s 0 : Nat) : Int) == 48) = (s[0]? == some 48) := bt_is hlt 48
          clear hd0
          cases hz : s[0]? == some 48 with
          | true =>
            have HP1 := Lib.hid (show p1 s = 0 + 1 by unfold p1; rw [HP.out, if_pos (by simpa using hz)])
            rw [hz] at k48
            clear hz
            go_wp2_with fail
            refine (HDG.out _).mono ?_
            rintro e w' ⟨rfl, rfl⟩
            go_wp2_with fail
            go_step3
            refine ⟨⟨_, rfl⟩, ?_, by decide⟩
            exact RJ.point H0.out (RF.mk rfl rfl rfl rfl rfl rfl (by rw [HP1.out]; rfl)) (by rw [HP.out]; rfl) (by rw [HN.out]; exact HR0.out)
          | false =>
            have HP1 := Lib.hid (show p1 s = ov s 0 by unfold p1; rw [HP.out, if_neg (by simpa using hz)])
            rw [hz] at k48
            clear hz
            go_wp2_with fail
            refine (HDG.out _).mono ?_
            rintro e w' ⟨rfl, rfl⟩
            go_wp2_with fail
            go_loop [5] (fun v => ∃ k : Nat, v = .int .i64 (k : Int) ∧ 0 ≤ k ∧ k ≤ ov s 0 ∧ k ≤ s.length) (fun v => s.length - (intOf v).toNat)
            case atStart => exact ⟨0, by go_num, Nat.le_refl _, ov_ge _ _, HPL.out⟩
            case round =>
              obtain ⟨k, rfl, hk1, hk2, hk3⟩ := hrel
              have hkl : ((k : Nat) : Int) ≤ ((s.length : Nat) : Int) := by omega
              cases hdk : dAt s k with
              | true =>
                have hlk := dAt_lt hdk
                have u1 : decide (((k : Nat) : Int) < ((s.length : Nat) : Int)) = true := by simp; omega
                have u2 : decide (k < s.length) = true := by simpa using hlk
                have hbk := bget s k hlk
                have HDG := Lib.hid (fun W => digit_at s k hlk W)
                rw [hdk] at HDG
                have HN := Lib.hid (show k + 1 ≤ ov s 0 by
                  have e1 := ov_ov (s := s) hk1 hk2
                  have e2 := ov_at hdk
                  omega)
                have HKA := Lib.hid (show 0 ≤ k + 1 ∧ k + 1 ≤ s.length from ⟨by omega, hlk⟩)
                have hki : ((k : Nat) : Int) < ((s.length : Nat) : Int) := by omega
                have HM := Lib.hid hlk
                clear hk1 hk2 hk3 hdk
                go_wp2_with fail
                refine (HDG.out _).mono ?_
                rintro e w' ⟨rfl, rfl⟩
                go_wp2_with fail
                go_round
                case rel => exact ⟨k + 1, by go_num, HKA.out.1, HN.out, HKA.out.2⟩
                case measure => have := HM.out; simp [intOf]; omega
              | false =>
                have hov : ov s 0 = k := by rw [← ov_ov hk1 hk2, ov_no hdk]
                have hstop : (decide (((k : Nat) : Int) < ((s.length : Nat) : Int)) = false ∧ decide (k < s.length) = false ∧ k = s.length) ∨ (decide (((k : Nat) : Int) < ((s.length : Nat) : Int)) = true ∧ decide (k < s.length) = true ∧ k < s.length) := by
                  rcases Nat.lt_or_ge k s.length with h | h
                  · right; exact ⟨by simp; omega, by simpa using h, h⟩
                  · left; exact ⟨by simp; omega, by simpa using h, by omega⟩
                have HDK := Lib.hid hdk
                have HOV := Lib.hid hov
                have HK1 := Lib.hid hk1
                clear hdk hov hk2 hk3
                have HPK := Lib.hid (show p1 s = k by rw [HP1.out]; exact HOV.out)
                clear hk1
                rcases hstop with ⟨u1, u2, hkk⟩ | ⟨u1, u2, hkk⟩
                · clear hkk
                  go_wp2_with fail
                  go_step3
                  refine wp_back (by assumption) ?_
                  refine HH.out 1 _ _ _ (by decide) rfl ?_
                  exact RJ.point H0.out (RF.mk rfl rfl rfl rfl rfl rfl (by rw [HPK.out]; rfl)) (by rw [HP.out]; rfl) (by rw [HN.out]; exact HR0.out)
                · have hbk := bget s k hkk
                  have HDG := Lib.hid (fun W => digit_at s k hkk W)
                  rw [HDK.out] at HDG
                  have hki : ((k : Nat) : Int) < ((s.length : Nat) : Int) := by omega
                  go_wp2_with fail
                  refine (HDG.out _).mono ?_
                  rintro e w' ⟨rfl, rfl⟩
                  go_wp2_with fail
                  go_step3
                  refine wp_back (by assumption) ?_
                  refine HH.out 1 _ _ _ (by decide) rfl ?_
                  exact RJ.point H0.out (RF.mk rfl rfl rfl rfl rfl rfl (by rw [HPK.out]; rfl)) (by rw [HP.out]; rfl) (by rw [HN.out]; exact HR0.out)
  · intro l rest a W hf hJ H
    rcases hJ with ⟨rfl, q, c0, c1, c2, c3, c4, hq, hF, hd⟩ | ⟨rfl, h0, hF, h6, hd⟩ | ⟨rfl, h0, h1, hF, hd⟩
    · obtain ⟨_, rfl⟩ := Code.seq.inj (Option.some.inj hf)
      clear H
      obtain ⟨v6, h6⟩ : ∃ v, a.tmps.getD 6 undef = v := ⟨_, rfl⟩
      obtain ⟨U, rfl⟩ := hF.open h6
      have HQ := Lib.hid hq
      have HB := Lib.hid hd.2.2
      obtain ⟨b2, _, _⟩ := hd
      have d0 := b2.cell 0
      have d1 := b2.cell 1
      have d2 := b2.cell 2
      have d3 := b2.cell 3
      have d4 := b2.cell 4
      have f0 := b2.frozen 0
      have f1 := b2.frozen 1
      have f2 := b2.frozen 2
      have f3 := b2.frozen 3
      have f4 := b2.frozen 4
      have HE := Lib.hid (((((b2.set1 0 (.bool false)).set1 1 (sv [])).set1 2 (sv [])).set1 3 (.bool false)).set1 4 (sv []))
      clear hq b2 hF h6
      go_wp2_with fail
      have e0 := HE.out.cell 0
      have e1 := HE.out.cell 1
      have e2 := HE.out.cell 2
      have e3 := HE.out.cell 3
      have e4 := HE.out.cell 4
      refine (?_ : bodyPost Tryz.prog Tryz.f113 (fun e w' => e = .returned (litV s) ∧ Below w.heap.size w w') .ret _ _)
      exact bodyPost_ret (v := .tuple #[.agg #[.bool false, .string ⟨#[]⟩, .string ⟨#[]⟩, .bool false, .string ⟨#[]⟩], .int .i64 (q : Nat)]) (by simp [results, Tryz.results113, go_sem, e0, e1, e2, e3, e4]) rfl ⟨by unfold litV; rw [HQ.out], (((((HB.out.setCell (p := ⟨w.heap.size, 0, none⟩) (Nat.le_refl _) _).setCell (p := ⟨w.heap.size, 1, none⟩) (Nat.le_refl _) _).setCell (p := ⟨w.heap.size, 2, none⟩) (Nat.le_refl _) _).setCell (p := ⟨w.heap.size, 3, none⟩) (Nat.le_refl _) _).setCell (p := ⟨w.heap.size, 4, none⟩) (Nat.le_refl _) _)⟩
    · obtain ⟨_, rfl⟩ := Code.seq.inj (Option.some.inj hf)
      obtain ⟨U, rfl⟩ := hF.open h6
      clear hF h6
      have HH := Lib.hid H
      have H0 := Lib.hid h0
      obtain ⟨b2, b4, hB⟩ := hd
      have hx := ext_cut s (p0 s) (p1 s)
      have HX : Go.RowKit.Hid (cutL s (p0 s) (p1 s) = wholeP s) := Lib.hid rfl
      rw [HX.out] at hx
      have hp01 : ((p0 s : Nat) : Int) ≤ ((p1 s : Nat) : Int) := by
        have : p0 s ≤ p1 s := by unfold p1; split; omega; exact ov_ge _ _
        omega
      have hp1l := p1_le (s := s)
      have hp1I : ((p1 s : Nat) : Int) ≤ ((s.length : Nat) : Int) := by omega
      have HB := Lib.hid (hB.setCell (p := ⟨w.heap.size + 1, 1, none⟩) (by simp) (sv (wholeP s)))
      have H2 := Lib.hid (b2.far (p := ⟨w.heap.size + 1, 1, none⟩) (by simp) (sv (wholeP s)))
      have H4 := Lib.hid (b4.set1 1 (sv (wholeP s)))
      have x1 := b4.cell 1
      have y1 := b4.frozen 1
      have hsm : ((s.length : Nat) : Int) ≤ 140737488353000 := by omega
      clear H h0 b2 b4 hB
      cases hpt : pt s with
      | false =>
        have HP2 := Lib.hid (show p2 s = p1 s by unfold p2; rw [hpt]; rfl)
        have HBE := Lib.hid (show behindP s = [] by unfold behindP; rw [hpt]; rfl)
        have HT : Go.RowKit.Hid (pt s = true → dAt s (p1 s + 1) = true) := Lib.hid (fun h => by rw [hpt] at h; cases h)
        rcases Nat.lt_or_ge (p1 s) s.length with hlt | hge
        · have k1 := bt_is hlt 46
          have t1 : (((p1 s : Nat) : Int) == ((s.length : Nat) : Int)) = false := by simp; omega
          have t2 : (((bt s (p1 s) : Nat) : Int) != 46) = true := by
            unfold pt at hpt
            rw [hpt] at k1
            show (!(((bt s (p1 s) : Nat) : Int) == 46)) = true
            rw [show (((bt s (p1 s) : Nat) : Int) == 46) = false from k1]; rfl
          have hb := bget s (p1 s) hlt
          have hlI : ((p1 s : Nat) : Int) < ((s.length : Nat) : Int) := by omega
          clear hpt k1 hp1l
          go_wp2_with fail
          go_step3
          exact ⟨⟨_, rfl⟩, RJ.ten H0.out HT.out (RF.mk rfl rfl rfl rfl rfl rfl (by rw [HP2.out]; rfl)) ⟨H2.out, by rw [HBE.out]; exact H4.out, HB.out⟩, by decide⟩
        · have t1 : (((p1 s : Nat) : Int) == ((s.length : Nat) : Int)) = true := by simp; omega
          clear hpt hge hp1l
          go_wp2_with fail
          go_step3
          exact ⟨⟨_, rfl⟩, RJ.ten H0.out HT.out (RF.mk rfl rfl rfl rfl rfl rfl (by rw [HP2.out]; rfl)) ⟨H2.out, by rw [HBE.out]; exact H4.out, HB.out⟩, by decide⟩
      | true =>
        have hlt := pt_lt hpt
        have k1 := bt_is hlt 46
        have t1 : (((p1 s : Nat) : Int) == ((s.length : Nat) : Int)) = false := by simp; omega
        have t2 : (((bt s (p1 s) : Nat) : Int) != 46) = false := by
          have hp2 := hpt
          unfold pt at hp2
          rw [hp2] at k1
          show (!(((bt s (p1 s) : Nat) : Int) == 46)) = false
          rw [show (((bt s (p1 s) : Nat) : Int) == 46) = true from k1]; rfl
        have hb := bget s (p1 s) hlt
        have hlI : ((p1 s : Nat) : Int) < ((s.length : Nat) : Int) := by omega
        have HPT := Lib.hid hpt
        have HPL := Lib.hid (show p1 s + 1 ≤ s.length from hlt)
        have hcast : ((p1 s + 1 : Nat) : Int) = ((p1 s : Nat) : Int) + 1 := by omega
        have HCA := Lib.hid hcast
        clear hpt k1 hp1l hcast
        go_wp2_with fail
        go_loop [5] (fun v => ∃ k : Nat, v = .int .i64 (k : Int) ∧ p1 s + 1 ≤ k ∧ k ≤ ov s (p1 s + 1) ∧ k ≤ s.length) (fun v => s.length - (intOf v).toNat)
        case atStart => exact ⟨p1 s + 1, by go_num, Nat.le_refl _, ov_ge _ _, HPL.out⟩
        case round =>
          obtain ⟨k, rfl, hk1, hk2, hk3⟩ := hrel
          have hkl : ((k : Nat) : Int) ≤ ((s.length : Nat) : Int) := by omega
          cases hdk : dAt s k with
          | true =>
            have hlk := dAt_lt hdk
            have u1 : decide (((k : Nat) : Int) < ((s.length : Nat) : Int)) = true := by simp; omega
            have u2 : decide (k < s.length) = true := by simpa using hlk
            have hbk := bget s k hlk
            have HDG := Lib.hid (fun W => digit_at s k hlk W)
            rw [hdk] at HDG
            have HN := Lib.hid (show k + 1 ≤ ov s (p1 s + 1) by
              have e1 := ov_ov (s := s) hk1 hk2
              have e2 := ov_at hdk
              omega)
            have HKA := Lib.hid (show p1 s + 1 ≤ k + 1 ∧ k + 1 ≤ s.length from ⟨by omega, hlk⟩)
            have hki : ((k : Nat) : Int) < ((s.length : Nat) : Int) := by omega
            have HM := Lib.hid hlk
            clear hk1 hk2 hk3 hdk
            go_wp2_with fail
            refine (HDG.out _).mono ?_
            rintro e w' ⟨rfl, rfl⟩
            go_wp2_with fail
            go_round
            case rel => exact ⟨k + 1, by go_num, HKA.out.1, HN.out, HKA.out.2⟩
            case measure => have := HM.out; simp [intOf]; omega
          | false =>
            have hov : ov s (p1 s + 1) = k := by rw [← ov_ov hk1 hk2, ov_no hdk]
            have hstop : (decide (((k : Nat) : Int) < ((s.length : Nat) : Int)) = false ∧ decide (k < s.length) = false ∧ k = s.length) ∨ (decide (((k : Nat) : Int) < ((s.length : Nat) : Int)) = true ∧ decide (k < s.length) = true ∧ k < s.length) := by
              rcases Nat.lt_or_ge k s.length with h | h
              · right; exact ⟨by simp; omega, by simpa using h, h⟩
              · left; exact ⟨by simp; omega, by simpa using h, by omega⟩
            have HDK := Lib.hid hdk
            have HOV := Lib.hid hov
            have HK1 := Lib.hid hk1
            clear hdk hov hk2 hk3
            have hp2 : p2 s = k := by unfold p2; rw [HPT.out, if_pos rfl]; exact HOV.out
            have HP2 := Lib.hid hp2
            have HBE := Lib.hid (show behindP s = cutL s (p1 s + 1) k by unfold behindP; rw [HPT.out, if_pos rfl, hp2])
            have hx2 := ext_cut s (p1 s + 1) k
            rw [← HBE.out] at hx2
            have hsplit : ((((k : Nat) : Int) == ((p1 s : Nat) : Int) + 1) = true ∧ k = p1 s + 1) ∨ ((((k : Nat) : Int) == ((p1 s : Nat) : Int) + 1) = false ∧ k ≠ p1 s + 1) := by
              by_cases h : k = p1 s + 1
              · left; exact ⟨by rw [h]; simp, h⟩
              · right; exact ⟨by simp; omega, h⟩
            have hnn : (((p1 s : Nat) : Int) + 1).toNat = p1 s + 1 := by omega
            have hpk : ((p1 s : Nat) : Int) + 1 ≤ ((k : Nat) : Int) := by have := HK1.out; omega
            have z2 := H4.out.cell 2
            have g2 := H4.out.frozen 2
            clear hp2 hk1
            rcases hsplit with ⟨v1, hkp⟩ | ⟨v1, hkp⟩
            · have HKP := Lib.hid hkp
              have HW : Go.RowKit.Hid (wrongP s = some k) := Lib.hid (by
                unfold wrongP
                rw [if_neg (by simp [H0.out]), if_pos ⟨HPT.out, by rw [← hkp]; exact HDK.out⟩, hkp])
              clear hkp
              rcases hstop with ⟨u1, u2, hkk⟩ | ⟨u1, u2, hkk⟩
              · clear hkk
                go_wp2_with fail
                go_step3
                exact ⟨⟨_, rfl⟩, RJ.wrong HW.out (RF.mk rfl rfl rfl rfl rfl rfl rfl) ⟨H2.out, H4.out, HB.out⟩, by decide⟩
              · have hbk := bget s k hkk
                have HDG := Lib.hid (fun W => digit_at s k hkk W)
                rw [HDK.out] at HDG
                have hki : ((k : Nat) : Int) < ((s.length : Nat) : Int) := by omega
                go_wp2_with fail
                refine (HDG.out _).mono ?_
                rintro e w' ⟨rfl, rfl⟩
                go_wp2_with fail
                go_step3
                exact ⟨⟨_, rfl⟩, RJ.wrong HW.out (RF.mk rfl rfl rfl rfl rfl rfl rfl) ⟨H2.out, H4.out, HB.out⟩, by decide⟩
            · have HT : Go.RowKit.Hid (pt s = true → dAt s (p1 s + 1) = true) := Lib.hid (fun _ => dAt_mid (Nat.le_refl _) (by have := HOV.out; have := HK1.out; omega))
              clear hkp
              rcases hstop with ⟨u1, u2, hkk⟩ | ⟨u1, u2, hkk⟩
              · clear hkk
                go_wp2_with fail
                go_step3
                refine wp_back (by assumption) ?_
                refine HH.out 2 _ _ _ (by decide) rfl ?_
                exact RJ.ten H0.out HT.out (RF.mk rfl rfl rfl rfl rfl rfl (by rw [HP2.out]; rfl)) ⟨H2.out.far (p := ⟨w.heap.size + 1, 2, none⟩) (by simp) _, H4.out.set1 2 (sv (behindP s)), HB.out.setCell (p := ⟨w.heap.size + 1, 2, none⟩) (by simp) _⟩
              · have hbk := bget s k hkk
                have HDG := Lib.hid (fun W => digit_at s k hkk W)
                rw [HDK.out] at HDG
                have hki : ((k : Nat) : Int) < ((s.length : Nat) : Int) := by omega
                go_wp2_with fail
                refine (HDG.out _).mono ?_
                rintro e w' ⟨rfl, rfl⟩
                go_wp2_with fail
                go_step3
                refine wp_back (by assumption) ?_
                refine HH.out 2 _ _ _ (by decide) rfl ?_
                exact RJ.ten H0.out HT.out (RF.mk rfl rfl rfl rfl rfl rfl (by rw [HP2.out]; rfl)) ⟨H2.out.far (p := ⟨w.heap.size + 1, 2, none⟩) (by simp) _, H4.out.set1 2 (sv (behindP s)), HB.out.setCell (p := ⟨w.heap.size + 1, 2, none⟩) (by simp) _⟩
    · obtain ⟨_, rfl⟩ := Code.seq.inj (Option.some.inj hf)
      obtain ⟨v6, h6⟩ : ∃ v, a.tmps.getD 6 undef = v := ⟨_, rfl⟩
      obtain ⟨U, rfl⟩ := hF.open h6
      clear hF h6
      have HH := Lib.hid H
      have HD := Lib.hid hd
      clear H hd
      have hle : p2 s ≤ s.length := p2_le
      have hsm : ((p2 s : Nat) : Int) ≤ 140737488353000 := by omega
      rcases Nat.lt_or_ge (p2 s) s.length with hlt | hge
      · have t1 : (((p2 s : Nat) : Int) == ((s.length : Nat) : Int)) = false := by simp; omega
        have hb := bget s (p2 s) hlt
        have k1 := bt_is hlt 101
        have k2 := bt_is hlt 69
        cases hE : hasE s with
        | false =>
          have hE2 := hE
          unfold hasE at hE2
          simp only [Bool.or_eq_false_iff] at hE2
          rw [hE2.1] at k1
          rw [hE2.2] at k2
          have t2 : (((bt s (p2 s) : Nat) : Int) != 101) = true := by show (!(((bt s (p2 s) : Nat) : Int) == 101)) = true; rw [show (((bt s (p2 s) : Nat) : Int) == 101) = false from k1]; rfl
          have t3 : (((bt s (p2 s) : Nat) : Int) != 69) = true := by show (!(((bt s (p2 s) : Nat) : Int) == 69)) = true; rw [show (((bt s (p2 s) : Nat) : Int) == 69) = false from k2]; rfl
          have HQ : Go.RowKit.Hid (wrongP s = some (p2 s)) := Lib.hid (by
            unfold wrongP
            rw [if_neg (by simp [h0]), if_neg (fun h => by have := h1 h.1; rw [this] at h; cases h.2), if_neg (by simp [hE]), show p4 s = p2 s by unfold p4; simp [hE], if_pos hlt])
          have hlI : ((p2 s : Nat) : Int) < ((s.length : Nat) : Int) := by omega
          clear h0 h1 hE hE2 k1 k2 hle
          have HI : Go.RowKit.Hid (p2 s = p2 s) := Lib.hid rfl
          go_wp2_with fail
          go_step3
          exact ⟨⟨_, rfl⟩, RJ.wrong HQ.out (RF.mk rfl rfl rfl rfl rfl rfl rfl) HD.out, by decide⟩
        | true =>
          have hE2 := hE
          unfold hasE at hE2
          have hcc : (s[p2 s]? == some 101) = true ∨ ((s[p2 s]? == some 101) = false ∧ (s[p2 s]? == some 69) = true) := by
            cases h : s[p2 s]? == some 101 with
            | true => exact .inl rfl
            | false => rw [h] at hE2; exact .inr ⟨rfl, by simpa using hE2⟩
          have t2 : (((bt s (p2 s) : Nat) : Int) != 101) = false ∨ ((((bt s (p2 s) : Nat) : Int) != 101) = true ∧ (((bt s (p2 s) : Nat) : Int) != 69) = false) := by
            rcases hcc with h | ⟨h, h'⟩
            · left; rw [h] at k1; show (!(((bt s (p2 s) : Nat) : Int) == 101)) = false; rw [show (((bt s (p2 s) : Nat) : Int) == 101) = true from k1]; rfl
            · right; rw [h] at k1; rw [h'] at k2
              exact ⟨by show (!(((bt s (p2 s) : Nat) : Int) == 101)) = true; rw [show (((bt s (p2 s) : Nat) : Int) == 101) = false from k1]; rfl, by show (!(((bt s (p2 s) : Nat) : Int) == 69)) = false; rw [show (((bt s (p2 s) : Nat) : Int) == 69) = true from k2]; rfl⟩
          clear hcc k1 k2 hE2
          have hlI : ((p2 s : Nat) : Int) < ((s.length : Nat) : Int) := by omega
          have HE0 := Lib.hid hE
          have H0 := Lib.hid h0
          have H1 := Lib.hid h1
          have HLT := Lib.hid hlt
          clear hE h0 h1 hle
          have hcases : (s.length ≤ p2 s + 1 ∧ sgn s = false ∧ underP s = false) ∨ (p2 s + 1 < s.length ∧ ((((((bt s (p2 s + 1) : Nat) : Int) == 43) = true ∧ ((((bt s (p2 s + 1) : Nat) : Int) == 45) = false)) ∧ sgn s = true ∧ underP s = false) ∨ (((((bt s (p2 s + 1) : Nat) : Int) == 43) = false ∧ ((((bt s (p2 s + 1) : Nat) : Int) == 45) = true)) ∧ sgn s = true ∧ underP s = true) ∨ (((((bt s (p2 s + 1) : Nat) : Int) == 43) = false ∧ ((((bt s (p2 s + 1) : Nat) : Int) == 45) = false)) ∧ sgn s = false ∧ underP s = false))) := by
            unfold sgn underP
            rw [HE0.out]
            rcases Nat.lt_or_ge (p2 s + 1) s.length with h | h
            · right
              refine ⟨h, ?_⟩
              have k1 := bt_is h 43
              have k2 := bt_is h 45
              have e1 : (((bt s (p2 s + 1) : Nat) : Int) == 43) = (s[p2 s + 1]? == some 43) := k1
              have e2 : (((bt s (p2 s + 1) : Nat) : Int) == 45) = (s[p2 s + 1]? == some 45) := k2
              rw [e1, e2]
              cases h1 : s[p2 s + 1]? == some 43 with
              | true =>
                have h2 : (s[p2 s + 1]? == some 45) = false := by
                  rw [beq_iff_eq] at h1; rw [h1]; rfl
                left; exact ⟨⟨rfl, h2⟩, by simp, by rw [h2]; rfl⟩
              | false =>
                cases h2 : s[p2 s + 1]? == some 45 with
                | true => right; left; exact ⟨⟨rfl, rfl⟩, rfl, rfl⟩
                | false => right; right; exact ⟨⟨rfl, rfl⟩, rfl, rfl⟩
            · left
              rw [List.getElem?_eq_none h]
              exact ⟨h, rfl, rfl⟩
          have HCS := Lib.hid hcases
          have hlen : ((s.length : Nat) : Int) ≤ 140737488353000 := by omega
          clear hcases
          have hpl := p3_le HE0.out
          have h3e : p3 s = if sgn s then p2 s + 2 else p2 s + 1 := rfl
          have HP3 := Lib.hid h3e
          have HPL := Lib.hid hpl
          clear hpl h3e
          rcases t2 with t2 | ⟨t2, t3⟩
          all_goals
            go_upto_region 24 with fail
            go_cut [120] from 105 to 120 (fun s120 wx => s120 = .bool (sgn s) ∧ wx = W)
            case first =>
              rcases HCS.out with ⟨h, hsg, hun⟩ | ⟨h, ⟨⟨k1, k2⟩, hsg, hun⟩ | ⟨⟨k1, k2⟩, hsg, hun⟩ | ⟨⟨k1, k2⟩, hsg, hun⟩⟩
              · have u1 : decide (((p2 s : Nat) : Int) + 1 < ((s.length : Nat) : Int)) = false := by simp; omega
                have HU := Lib.hid hsg
                clear hsg hun h
                go_wp2_with fail
                go_meet
                exact ⟨by rw [HU.out], rfl⟩
              · have u1 : decide (((p2 s : Nat) : Int) + 1 < ((s.length : Nat) : Int)) = true := by simp; omega
                have hb1 := bget s (p2 s + 1) h
                have hIl : ((p2 s : Nat) : Int) + 1 < ((s.length : Nat) : Int) := by omega
                have hnn : (((p2 s : Nat) : Int) + 1).toNat = p2 s + 1 := by omega
                have HU := Lib.hid hsg
                clear hsg hun
                go_wp2_with fail
                go_meet
                exact ⟨by rw [HU.out], rfl⟩
              · have u1 : decide (((p2 s : Nat) : Int) + 1 < ((s.length : Nat) : Int)) = true := by simp; omega
                have hb1 := bget s (p2 s + 1) h
                have hIl : ((p2 s : Nat) : Int) + 1 < ((s.length : Nat) : Int) := by omega
                have hnn : (((p2 s : Nat) : Int) + 1).toNat = p2 s + 1 := by omega
                have HU := Lib.hid hsg
                clear hsg hun
                go_wp2_with fail
                go_meet
                exact ⟨by rw [HU.out], rfl⟩
              · have u1 : decide (((p2 s : Nat) : Int) + 1 < ((s.length : Nat) : Int)) = true := by simp; omega
                have hb1 := bget s (p2 s + 1) h
                have hIl : ((p2 s : Nat) : Int) + 1 < ((s.length : Nat) : Int) := by omega
                have hnn : (((p2 s : Nat) : Int) + 1).toNat = p2 s + 1 := by omega
                have HU := Lib.hid hsg
                clear hsg hun
                go_wp2_with fail
                go_meet
                exact ⟨by rw [HU.out], rfl⟩
            case rest =>
            obtain ⟨rfl, rfl⟩ := hcut
            go_upto_if 120 with fail
            go_cut [5] from 120 to 127 (fun s5 wx => s5 = .int .i64 ((p3 s : Nat) : Int) ∧ RD w w.heap.size (negP s) (wholeP s) (behindP s) (underP s) [] wx)
            case first =>
              rcases HCS.out with ⟨h, hsg, hun⟩ | ⟨h, ⟨⟨k1, k2⟩, hsg, hun⟩ | ⟨⟨k1, k2⟩, hsg, hun⟩ | ⟨⟨k1, k2⟩, hsg, hun⟩⟩
              · have hp3 := HP3.out
                rw [hsg] at hp3
                simp only [if_true, if_false, Bool.false_eq_true] at hp3
                have HP := Lib.hid hp3
                have HU := Lib.hid hun
                have HG := Lib.hid hsg
                have hb1 := fun h => bget s (p2 s + 1) h
                have hnn : (((p2 s : Nat) : Int) + 1).toNat = p2 s + 1 := by omega
                have hIl : p2 s + 1 < s.length → ((p2 s : Nat) : Int) + 1 < ((s.length : Nat) : Int) := fun h => by omega
                obtain ⟨b2, b4, hB⟩ := HD.out
                have HB := Lib.hid hB
                have H2 := Lib.hid b2
                have HWt := Lib.hid (b4.set1 3 (.bool true))
                have HWf := Lib.hid (b4.set1 3 (.bool false))
                have H4 := Lib.hid b4
                have x3 := b4.cell 3
                have y3 := b4.frozen 3
                clear hp3 hun hB b2 b4
                try (have hb2 := hb1 h)
                try (have hI2 := hIl h)
                clear hb1 hIl
                rw [hsg]
                clear hsg
                go_wp2_with fail
                go_meet
                first
                  | exact ⟨by rw [HP.out]; go_num, by rw [HU.out]; exact ⟨H2.out, H4.out, HB.out⟩⟩
                  | exact ⟨by rw [HP.out]; go_num, by rw [HU.out]; exact ⟨H2.out.far (p := ⟨w.heap.size + 1, 3, none⟩) (by simp) _, HWt.out, HB.out.setCell (p := ⟨w.heap.size + 1, 3, none⟩) (by simp) _⟩⟩
                  | exact ⟨by rw [HP.out]; go_num, by rw [HU.out]; exact ⟨H2.out.far (p := ⟨w.heap.size + 1, 3, none⟩) (by simp) _, HWf.out, HB.out.setCell (p := ⟨w.heap.size + 1, 3, none⟩) (by simp) _⟩⟩
              · have hp3 := HP3.out
                rw [hsg] at hp3
                simp only [if_true, if_false, Bool.false_eq_true] at hp3
                have HP := Lib.hid hp3
                have HU := Lib.hid hun
                have HG := Lib.hid hsg
                have hb1 := fun h => bget s (p2 s + 1) h
                have hnn : (((p2 s : Nat) : Int) + 1).toNat = p2 s + 1 := by omega
                have hIl : p2 s + 1 < s.length → ((p2 s : Nat) : Int) + 1 < ((s.length : Nat) : Int) := fun h => by omega
                obtain ⟨b2, b4, hB⟩ := HD.out
                have HB := Lib.hid hB
                have H2 := Lib.hid b2
                have HWt := Lib.hid (b4.set1 3 (.bool true))
                have HWf := Lib.hid (b4.set1 3 (.bool false))
                have H4 := Lib.hid b4
                have x3 := b4.cell 3
                have y3 := b4.frozen 3
                clear hp3 hun hB b2 b4
                try (have hb2 := hb1 h)
                try (have hI2 := hIl h)
                clear hb1 hIl
                rw [hsg]
                clear hsg
                go_wp2_with fail
                go_meet
                first
                  | exact ⟨by rw [HP.out]; go_num, by rw [HU.out]; exact ⟨H2.out, H4.out, HB.out⟩⟩
                  | exact ⟨by rw [HP.out]; go_num, by rw [HU.out]; exact ⟨H2.out.far (p := ⟨w.heap.size + 1, 3, none⟩) (by simp) _, HWt.out, HB.out.setCell (p := ⟨w.heap.size + 1, 3, none⟩) (by simp) _⟩⟩
                  | exact ⟨by rw [HP.out]; go_num, by rw [HU.out]; exact ⟨H2.out.far (p := ⟨w.heap.size + 1, 3, none⟩) (by simp) _, HWf.out, HB.out.setCell (p := ⟨w.heap.size + 1, 3, none⟩) (by simp) _⟩⟩
              · have hp3 := HP3.out
                rw [hsg] at hp3
                simp only [if_true, if_false, Bool.false_eq_true] at hp3
                have HP := Lib.hid hp3
                have HU := Lib.hid hun
                have HG := Lib.hid hsg
                have hb1 := fun h => bget s (p2 s + 1) h
                have hnn : (((p2 s : Nat) : Int) + 1).toNat = p2 s + 1 := by omega
                have hIl : p2 s + 1 < s.length → ((p2 s : Nat) : Int) + 1 < ((s.length : Nat) : Int) := fun h => by omega
                obtain ⟨b2, b4, hB⟩ := HD.out
                have HB := Lib.hid hB
                have H2 := Lib.hid b2
                have HWt := Lib.hid (b4.set1 3 (.bool true))
                have HWf := Lib.hid (b4.set1 3 (.bool false))
                have H4 := Lib.hid b4
                have x3 := b4.cell 3
                have y3 := b4.frozen 3
                clear hp3 hun hB b2 b4
                try (have hb2 := hb1 h)
                try (have hI2 := hIl h)
                clear hb1 hIl
                rw [hsg]
                clear hsg
                go_wp2_with fail
                go_meet
                first
                  | exact ⟨by rw [HP.out]; go_num, by rw [HU.out]; exact ⟨H2.out, H4.out, HB.out⟩⟩
                  | exact ⟨by rw [HP.out]; go_num, by rw [HU.out]; exact ⟨H2.out.far (p := ⟨w.heap.size + 1, 3, none⟩) (by simp) _, HWt.out, HB.out.setCell (p := ⟨w.heap.size + 1, 3, none⟩) (by simp) _⟩⟩
                  | exact ⟨by rw [HP.out]; go_num, by rw [HU.out]; exact ⟨H2.out.far (p := ⟨w.heap.size + 1, 3, none⟩) (by simp) _, HWf.out, HB.out.setCell (p := ⟨w.heap.size + 1, 3, none⟩) (by simp) _⟩⟩
              · have hp3 := HP3.out
                rw [hsg] at hp3
                simp only [if_true, if_false, Bool.false_eq_true] at hp3
                have HP := Lib.hid hp3
                have HU := Lib.hid hun
                have HG := Lib.hid hsg
                have hb1 := fun h => bget s (p2 s + 1) h
                have hnn : (((p2 s : Nat) : Int) + 1).toNat = p2 s + 1 := by omega
                have hIl : p2 s + 1 < s.length → ((p2 s : Nat) : Int) + 1 < ((s.length : Nat) : Int) := fun h => by omega
                obtain ⟨b2, b4, hB⟩ := HD.out
                have HB := Lib.hid hB
                have H2 := Lib.hid b2
                have HWt := Lib.hid (b4.set1 3 (.bool true))
                have HWf := Lib.hid (b4.set1 3 (.bool false))
                have H4 := Lib.hid b4
                have x3 := b4.cell 3
                have y3 := b4.frozen 3
                clear hp3 hun hB b2 b4
                try (have hb2 := hb1 h)
                try (have hI2 := hIl h)
                clear hb1 hIl
                rw [hsg]
                clear hsg
                go_wp2_with fail
                go_meet
                first
                  | exact ⟨by rw [HP.out]; go_num, by rw [HU.out]; exact ⟨H2.out, H4.out, HB.out⟩⟩
                  | exact ⟨by rw [HP.out]; go_num, by rw [HU.out]; exact ⟨H2.out.far (p := ⟨w.heap.size + 1, 3, none⟩) (by simp) _, HWt.out, HB.out.setCell (p := ⟨w.heap.size + 1, 3, none⟩) (by simp) _⟩⟩
                  | exact ⟨by rw [HP.out]; go_num, by rw [HU.out]; exact ⟨H2.out.far (p := ⟨w.heap.size + 1, 3, none⟩) (by simp) _, HWf.out, HB.out.setCell (p := ⟨w.heap.size + 1, 3, none⟩) (by simp) _⟩⟩
            case rest =>
              obtain ⟨rfl, hd5⟩ := hcut
              have HD5 := Lib.hid hd5
              have hp3l : ((p3 s : Nat) : Int) ≤ ((s.length : Nat) : Int) := by have := HPL.out; omega
              clear hd5
              go_wp2_with fail
              go_loop [5] (fun v => ∃ k : Nat, v = .int .i64 (k : Int) ∧ p3 s ≤ k ∧ k ≤ ov s (p3 s) ∧ k ≤ s.length) (fun v => s.length - (intOf v).toNat)
              case atStart => exact ⟨p3 s, rfl, Nat.le_refl _, ov_ge _ _, HPL.out⟩
              case round =>
                obtain ⟨k, rfl, hk1, hk2, hk3⟩ := hrel
                have hkl : ((k : Nat) : Int) ≤ ((s.length : Nat) : Int) := by omega
                cases hdk : dAt s k with
                | true =>
                  have hlk := dAt_lt hdk
                  have u1 : decide (((k : Nat) : Int) < ((s.length : Nat) : Int)) = true := by simp; omega
                  have u2 : decide (k < s.length) = true := by simpa using hlk
                  have hbk := bget s k hlk
                  have HDG := Lib.hid (fun W => digit_at s k hlk W)
                  rw [hdk] at HDG
                  have HN := Lib.hid (show k + 1 ≤ ov s (p3 s) by
                    have e1 := ov_ov (s := s) hk1 hk2
                    have e2 := ov_at hdk
                    omega)
                  have HKA := Lib.hid (show p3 s ≤ k + 1 ∧ k + 1 ≤ s.length from ⟨by omega, hlk⟩)
                  have hki : ((k : Nat) : Int) < ((s.length : Nat) : Int) := by omega
                  have HM := Lib.hid hlk
                  clear hk1 hk2 hk3 hdk
                  go_wp2_with fail
                  refine (HDG.out _).mono ?_
                  rintro e w' ⟨rfl, rfl⟩
                  go_wp2_with fail
                  go_round
                  case rel => exact ⟨k + 1, by go_num, HKA.out.1, HN.out, HKA.out.2⟩
                  case measure => have := HM.out; simp [intOf]; omega
                | false =>
                  have hov : ov s (p3 s) = k := by rw [← ov_ov hk1 hk2, ov_no hdk]
                  have hw3 : k = p3 s → wrongP s = some k := fun h => by
                    unfold wrongP
                    rw [if_neg (by simp [H0.out]), if_neg (fun h => by have := H1.out h.1; rw [this] at h; cases h.2), if_pos ⟨HE0.out, by rw [← h]; exact hdk⟩, h]
                  have hd3 : k ≠ p3 s → dAt s (p3 s) = true := fun h => dAt_mid (Nat.le_refl _) (by omega)
                  have hp4 : p4 s = k := by unfold p4; rw [HE0.out, if_pos rfl]; exact hov
                  have hw4 : k ≠ p3 s → k < s.length → wrongP s = some k := fun h h' => by
                    unfold wrongP
                    rw [if_neg (by simp [H0.out]), if_neg (fun h => by have := H1.out h.1; rw [this] at h; cases h.2), if_neg (fun x => by rw [hd3 h] at x; cases x.2), hp4, if_pos h']
                  have hlv : k ≠ p3 s → k = s.length → litV s = .tuple #[.agg #[.bool (negP s), sv (wholeP s), sv (behindP s), .bool (underP s), sv (cutL s (p3 s) k)], .int .i64 (-1)] := fun h h' => by
                    have hw : wrongP s = none := by
                      unfold wrongP
                      rw [if_neg (by simp [H0.out]), if_neg (fun h => by have := H1.out h.1; rw [this] at h; cases h.2), if_neg (fun x => by rw [hd3 h] at x; cases x.2), hp4, if_neg (by omega)]
                    unfold litV expP
                    rw [hw, HE0.out, hp4]; rfl
                  have hpk : ((p3 s : Nat) : Int) ≤ ((k : Nat) : Int) := by omega
                  have hstop : (decide (((k : Nat) : Int) < ((s.length : Nat) : Int)) = false ∧ decide (k < s.length) = false ∧ k = s.length) ∨ (decide (((k : Nat) : Int) < ((s.length : Nat) : Int)) = true ∧ decide (k < s.length) = true ∧ k < s.length) := by
                    rcases Nat.lt_or_ge k s.length with h | h
                    · right; exact ⟨by simp; omega, by simpa using h, h⟩
                    · left; exact ⟨by simp; omega, by simpa using h, by omega⟩
                  have HW3 := Lib.hid hw3
                  have HW4 := Lib.hid hw4
                  have HLV := Lib.hid hlv
                  obtain ⟨b2, b4, hB⟩ := HD5.out
                  have HB := Lib.hid hB
                  have H2 := Lib.hid b2
                  have H4 := Lib.hid (b4.set1 4 (sv (cutL s (p3 s) k)))
                  have x4 := b4.cell 4
                  have y4 := b4.frozen 4
                  have HDK := Lib.hid hdk
                  clear hw3 hd3 hp4 hw4 hlv hov hk1 hk2 hk3 hB b2 b4 hdk
                  have hx := ext_cut s (p3 s) k
                  have hsplit : ((((k : Nat) : Int) == ((p3 s : Nat) : Int)) = true ∧ k = p3 s) ∨ ((((k : Nat) : Int) == ((p3 s : Nat) : Int)) = false ∧ k ≠ p3 s) := by
                    by_cases h : k = p3 s
                    · left; exact ⟨by rw [h]; simp, h⟩
                    · right; exact ⟨by simp; omega, h⟩
                  rcases hsplit with ⟨v1, hkp⟩ | ⟨v1, hkp⟩
                  · have HKP := Lib.hid hkp
                    clear hkp
                    rcases hstop with ⟨u1, u2, hkk⟩ | ⟨u1, u2, hkk⟩
                    · clear hkk
                      go_wp2_with fail
                      go_step3
                      exact ⟨⟨_, rfl⟩, RJ.wrong (c0 := negP s) (c1 := wholeP s) (c2 := behindP s) (c3 := underP s) (c4 := cutL s (p3 s) k) (HW3.out HKP.out) (RF.mk rfl rfl rfl rfl rfl rfl rfl) ⟨H2.out.far (p := ⟨w.heap.size + 1, 4, none⟩) (by simp) _, H4.out, HB.out.setCell (p := ⟨w.heap.size + 1, 4, none⟩) (by simp) _⟩, by decide⟩
                    · have hbk := bget s k hkk
                      have HDG := Lib.hid (fun W => digit_at s k hkk W)
                      rw [HDK.out] at HDG
                      have hki : ((k : Nat) : Int) < ((s.length : Nat) : Int) := by omega
                      go_wp2_with fail
                      refine (HDG.out _).mono ?_
                      rintro e w' ⟨rfl, rfl⟩
                      go_wp2_with fail
                      go_step3
                      exact ⟨⟨_, rfl⟩, RJ.wrong (c0 := negP s) (c1 := wholeP s) (c2 := behindP s) (c3 := underP s) (c4 := cutL s (p3 s) k) (HW3.out HKP.out) (RF.mk rfl rfl rfl rfl rfl rfl rfl) ⟨H2.out.far (p := ⟨w.heap.size + 1, 4, none⟩) (by simp) _, H4.out, HB.out.setCell (p := ⟨w.heap.size + 1, 4, none⟩) (by simp) _⟩, by decide⟩
                  · have HKP := Lib.hid hkp
                    clear hkp
                    rcases hstop with ⟨u1, u2, hkk⟩ | ⟨u1, u2, hkk⟩
                    · have HKK := Lib.hid hkk
                      have hb2 := H2.out.far (p := ⟨w.heap.size + 1, 4, none⟩) (by simp) (sv (cutL s (p3 s) k))
                      have hb4 := H4.out
                      have HE := Lib.hid (((((hb2.set1 0 (.bool (negP s))).set1 1 (sv (wholeP s))).set1 2 (sv (behindP s))).set1 3 (.bool (underP s))).set1 4 (sv (cutL s (p3 s) k)))
                      have d0 := hb2.cell 0
                      have d1 := hb2.cell 1
                      have d2 := hb2.cell 2
                      have d3 := hb2.cell 3
                      have d4 := hb2.cell 4
                      have f0 := hb2.frozen 0
                      have f1 := hb2.frozen 1
                      have f2 := hb2.frozen 2
                      have f3 := hb2.frozen 3
                      have f4 := hb2.frozen 4
                      have z0 := hb4.cell 0
                      have z1 := hb4.cell 1
                      have z2 := hb4.cell 2
                      have z3 := hb4.cell 3
                      have z4 := hb4.cell 4
                      clear hkk hb2 hb4
                      go_wp2_with fail
                      have e0 := HE.out.cell 0
                      have e1 := HE.out.cell 1
                      have e2 := HE.out.cell 2
                      have e3 := HE.out.cell 3
                      have e4 := HE.out.cell 4
                      exact bodyPost_ret (v := .tuple #[.agg #[.bool (negP s), sv (wholeP s), sv (behindP s), .bool (underP s), sv (cutL s (p3 s) k)], .int .i64 (-1)]) (by simp [results, Tryz.results113, go_sem, e0, e1, e2, e3, e4]) rfl ⟨by rw [HLV.out HKP.out HKK.out], ((((((HB.out.setCell (p := ⟨w.heap.size + 1, 4, none⟩) (by simp) _).setCell (p := ⟨w.heap.size, 0, none⟩) (Nat.le_refl _) _).setCell (p := ⟨w.heap.size, 1, none⟩) (Nat.le_refl _) _).setCell (p := ⟨w.heap.size, 2, none⟩) (Nat.le_refl _) _).setCell (p := ⟨w.heap.size, 3, none⟩) (Nat.le_refl _) _).setCell (p := ⟨w.heap.size, 4, none⟩) (Nat.le_refl _) _)⟩
                    · have hbk := bget s k hkk
                      have HDG := Lib.hid (fun W => digit_at s k hkk W)
                      rw [HDK.out] at HDG
                      have hki : ((k : Nat) : Int) < ((s.length : Nat) : Int) := by omega
                      go_wp2_with fail
                      refine (HDG.out _).mono ?_
                      rintro e w' ⟨rfl, rfl⟩
                      go_wp2_with fail
                      go_step3
                      exact ⟨⟨_, rfl⟩, RJ.wrong (c0 := negP s) (c1 := wholeP s) (c2 := behindP s) (c3 := underP s) (c4 := cutL s (p3 s) k) (HW4.out HKP.out hkk) (RF.mk rfl rfl rfl rfl rfl rfl rfl) ⟨H2.out.far (p := ⟨w.heap.size + 1, 4, none⟩) (by simp) _, H4.out, HB.out.setCell (p := ⟨w.heap.size + 1, 4, none⟩) (by simp) _⟩, by decide⟩
      · have heq : p2 s = s.length := by omega
        have hE : hasE s = false := by
          cases h : hasE s with
          | false => rfl
          | true => have := hasE_lt h; omega
        have HW : Go.RowKit.Hid (litV s = .tuple #[.agg #[.bool (negP s), sv (wholeP s), sv (behindP s), .bool false, sv []], .int .i64 (-1)]) := Lib.hid (by
          have hw : wrongP s = none := by
            unfold wrongP
            rw [if_neg (by simp [h0]), if_neg (fun h => by have := h1 h.1; rw [this] at h; cases h.2), if_neg (by simp [hE]), if_neg (by unfold p4; simp [hE]; omega)]
          unfold litV underP expP
          rw [hw, hE]; rfl)
        have t1 : (((p2 s : Nat) : Int) == ((s.length : Nat) : Int)) = true := by simp [heq]
        have HB := Lib.hid HD.out.2.2
        obtain ⟨b2, b4, _⟩ := HD.out
        generalize p2 s = i at *
        generalize negP s = g at *
        generalize wholeP s = wh at *
        generalize behindP s = be at *
        clear hE hle hge h0 h1
        have d0 := b2.cell 0
        have d1 := b2.cell 1
        have d2 := b2.cell 2
        have d3 := b2.cell 3
        have d4 := b2.cell 4
        have f0 := b2.frozen 0
        have f1 := b2.frozen 1
        have f2 := b2.frozen 2
        have f3 := b2.frozen 3
        have f4 := b2.frozen 4
        have e0 := b4.cell 0
        have e1 := b4.cell 1
        have e2 := b4.cell 2
        have e3 := b4.cell 3
        have e4 := b4.cell 4
        have HE := Lib.hid (((((b2.set1 0 (.bool g)).set1 1 (sv wh)).set1 2 (sv be)).set1 3 (.bool false)).set1 4 (sv []))
        have HEQ := Lib.hid heq
        clear b2 b4 heq
        go_wp2_with fail
        have e0 := HE.out.cell 0
        have e1 := HE.out.cell 1
        have e2 := HE.out.cell 2
        have e3 := HE.out.cell 3
        have e4 := HE.out.cell 4
        refine (?_ : bodyPost Tryz.prog Tryz.f113 (fun e w' => e = .returned (litV s) ∧ Below w.heap.size w w') .ret _ _)
        exact bodyPost_ret (v := .tuple #[.agg #[.bool g, sv wh, sv be, .bool false, sv []], .int .i64 (-1)]) (by simp [results, Tryz.results113, go_sem, e0, e1, e2, e3, e4]) rfl ⟨by rw [HW.out], (((((HB.out.setCell (p := ⟨w.heap.size, 0, none⟩) (Nat.le_refl _) _).setCell (p := ⟨w.heap.size, 1, none⟩) (Nat.le_refl _) _).setCell (p := ⟨w.heap.size, 2, none⟩) (Nat.le_refl _) _).setCell (p := ⟨w.heap.size, 3, none⟩) (Nat.le_refl _) _).setCell (p := ⟨w.heap.size, 4, none⟩) (Nat.le_refl _) _)⟩
end Go.Proofs.YtnajondbdeclmaaGreatDoor
