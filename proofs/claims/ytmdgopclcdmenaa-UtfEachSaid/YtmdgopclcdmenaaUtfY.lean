/- The contracts of utf.Count and utf.Units. -/
import Derived.Test.YtmdgopclcdmenaaUtfK
import Derived.Test.YtmdgopclcdmenaaUtfO
import Derived.Laws.RangeAny
namespace Go.Proofs.Ytmdgopclcdmenaa
open Go.RowKit
set_option linter.unusedSimpArgs false
set_option linter.unusedVariables false

/-- An iterator over a text, in a block of its own, set to a place. -/
def itSet (w : World) (g : Nat) (s : ByteArray) (p : Nat) : World := { w with heap := w.heap.setIfInBounds g (.stringIter s p) }
def IsIt (w : World) (g : Nat) (s : ByteArray) (p : Nat) : Prop := w.heap[g]? = some (.stringIter s p)
theorem IsIt.lt {w : World} {g p : Nat} {s : ByteArray} (h : IsIt w g s p) : g < w.heap.size := by
  rcases Nat.lt_or_ge g w.heap.size with hlt | hge
  · exact hlt
  · unfold IsIt at h; rw [Array.getElem?_eq_none hge] at h; cases h
theorem IsIt.set {w : World} {g p q : Nat} {s : ByteArray} (h : IsIt w g s p) : IsIt (itSet w g s q) g s q := by
  have := h.lt
  unfold IsIt itSet
  simp [this]
theorem IsIt.grown {w w' : World} {g p : Nat} {s : ByteArray} {row : Option Nat} (h : IsIt w g s p) (hg : w.grownBy w' row) (hne : some g ≠ row) : IsIt w' g s p := (hg.block g h.lt hne).trans h
theorem IsIt.alloc {w : World} {g p : Nat} {s : ByteArray} (h : IsIt w g s p) (o : Obj) : IsIt (w.alloc o) g s p := (Below.heap_alloc w o g h.lt).trans h
theorem IsIt.new (w : World) (s : ByteArray) (p : Nat) : IsIt (w.iter s p) w.heap.size s p := World.iter_heap w s p
theorem itSet_but (B : Nat) (w : World) (g : Nat) (s : ByteArray) (p : Nat) : But B g w (itSet w g s p) :=
  ⟨rfl, rfl, rfl, by simp [itSet], fun k _ hk => by simp [itSet, Array.getElem?_setIfInBounds, Ne.symm hk]⟩
theorem run_next_at {P : Program} {w : World} {g pos : Nat} {s : ByteArray} (ty : TypeId) (hb : IsIt w g s pos) (h : pos < s.size) :
    (Instr.next (.pointer (some ⟨g, 0, none⟩)) true ty).run P w = .ok (.tuple #[.bool true, .int .i64 pos, .int .i32 (Utf8.decode s pos).1]) (itSet w g s (pos + (Utf8.decode s pos).2)) := by
  unfold IsIt at hb
  simp only [Instr.next, getObj, setObj, Sem.run_bind, Sem.run, hb, Result.andThen, h, if_true, itSet]
  simp [goInt]
theorem run_next_out {P : Program} {w : World} {g pos : Nat} {s : ByteArray} (ty : TypeId) (hb : IsIt w g s pos) (h : ¬ pos < s.size) :
    (Instr.next (.pointer (some ⟨g, 0, none⟩)) true ty).run P w = .ok (.tuple #[.bool false]) w := by
  unfold IsIt at hb
  simp [Instr.next, getObj, Sem.run, hb, h]

theorem wrongF_zero (s : List UInt8) : ∀ m j, s.length - j = m → (wrongF s j).1 = 0 → wrongF s j = (0, 0) := by
  intro m
  induction m using Nat.strongRecOn with
  | ind m ih =>
    intro j hm h1
    by_cases hj : j < s.length
    · by_cases he : (chAt s j).e = 0
      · have hp := ch_pos s j he
        rw [wrongF_on hj he] at h1 ⊢
        exact ih (s.length - (j + (chAt s j).n)) (by omega) _ rfl h1
      · rw [wrongF_bad hj he] at h1
        exact absurd h1 he
    · exact wrongF_end (by omega)
theorem right_ok {s : List UInt8} (h : right s = true) : wrongF s 0 = (0, 0) := wrongF_zero s _ 0 rfl (of_decide_eq_true h)
theorem ok_at {s : List UInt8} {i : Nat} (hi : i < s.length) (h : wrongF s i = (0, 0)) : (chAt s i).e = 0 := by
  by_cases he : (chAt s i).e = 0
  · exact he
  · rw [wrongF_bad hi he] at h; exact congrArg Prod.fst h

def nUnits (l : List (Nat × Nat)) : Nat := (l.flatMap fun x => unitsOf x.2).length
theorem nUnits_snoc (l : List (Nat × Nat)) (i r : Nat) : nUnits (l ++ [(i, r)]) = nUnits l + (if r < 65536 then 1 else 2) := by
  unfold nUnits
  rw [List.flatMap_append, List.length_append]
  congr 1
  simp only [List.flatMap_cons, List.flatMap_nil, List.append_nil, unitsOf]
  split <;> rfl
theorem nUnits_le (l : List (Nat × Nat)) : nUnits l ≤ 2 * l.length := flat_len l

theorem count_no (s : List UInt8) (w : World) (hn : s.length ≤ 4294967296) (hr : right s = false) :
    Calls Try.prog 40 #[.string ⟨s.toArray⟩] w fun e w' => e = .returned (.tuple #[.int .i64 0, .int .i64 0, spotE (wrong s).1 (wrong s).2]) ∧ Below w.heap.size w w' := by
  have hk := fun W => run_tobytes W s
  obtain ⟨l, hl1, hl2, hl3, hl4, hl5, hl6⟩ := newB w s (by omega)
  have hrb := hl5.rb s.length hl3
  rw [hl2] at hrb
  have HRB := Lib.hid hrb
  have HB := Lib.hid hl6
  have hlt := hl5.lt
  clear hl1 hl2 hl3 hl4 hl5 hl6 hrb
  have HV := Lib.hid (uwrongV_not hr)
  clear hr
  generalize (wrong s).1 = x at *
  generalize (wrong s).2 = y at *
  go_enter Try.func40, Try.ntmps40
  go_wp2_with fail
  refine (check_any _ _ _ (w.heap.size + 1) s _ HRB.out hlt (by omega)).mono ?_
  rw [HV.out]
  rintro e w1 ⟨rfl, hb1⟩
  go_wp2_with fail
  go_ret3
  exact ⟨rfl, keepb HB.out hb1⟩

set_option maxRecDepth 100000 in
set_option maxHeartbeats 2000000 in
theorem count_yes (s : List UInt8) (w : World) (hn : s.length ≤ 4294967296) (hr : right s = true) :
    Calls Try.prog 40 #[.string ⟨s.toArray⟩] w fun e w' => e = .returned (.tuple #[.int .i64 (runesF s 0).length, .int .i64 (unitsF s 0).length, .nilIface]) ∧ Below w.heap.size w w' := by
  have hk := fun W => run_tobytes W s
  obtain ⟨l, hl1, hl2, hl3, hl4, hl5, hl6⟩ := newB w s (by omega)
  have hrb := hl5.rb s.length hl3
  rw [hl2] at hrb
  have HRB := Lib.hid hrb
  have HB := Lib.hid hl6
  have hlt := hl5.lt
  clear hl1 hl2 hl3 hl4 hl5 hl6 hrb
  have HV := Lib.hid (uwrongV_right hr)
  have HOK := Lib.hid (right_ok hr)
  have hll := runesF_len s _ 0 rfl
  clear hr
  go_enter Try.func40, Try.ntmps40
  go_wp2_with fail
  refine (check_any _ _ _ (w.heap.size + 1) s _ HRB.out hlt (by omega)).mono ?_
  rw [HV.out]
  rintro e w1 ⟨rfl, hb1⟩
  have HB1 := Lib.hid (keepb HB.out hb1)
  have hs1 := HB1.out.size
  clear hb1
  go_wp2_with fail
  go_loopw [6, 7] (fun u v wr => ∃ (i : Nat) (pre : List (Nat × Nat)), i ≤ s.length ∧ u = .int .i64 pre.length ∧ v = .int .i64 (nUnits pre) ∧ runesF s 0 = pre ++ runesF s i ∧ wrongF s i = (0, 0) ∧ wr = w1.iter ⟨s.toArray⟩ i) (fun _ _ wr => s.length - wr.iterPos w1.heap.size)
  case atStart => exact ⟨0, [], by omega, rfl, rfl, rfl, HOK.out, rfl⟩
  case round =>
    obtain ⟨i, pre, hi, rfl, rfl, hw, hok, rfl⟩ := hrel
    have hpl : pre.length ≤ s.length := by have := congrArg List.length hw; simp at this; omega
    have hnu := nUnits_le pre
    have HW := Lib.hid hw
    clear hw
    by_cases hlt : i < s.length
    · have he := ok_at hlt hok
      have hd := dec_eq hlt he
      have hnx := fun ty => run_next_any (P := Try.prog) w1 ⟨s.toArray⟩ i ty hlt
      rw [hd] at hnx
      simp only at hnx
      have hle := chAt_len hlt
      have hpos := ch_pos s i he
      have hrs := (ch_scal he).1
      have HRN := Lib.hid (runesF_on hlt he)
      rw [wrongF_on hlt he] at hok
      have HOK2 := Lib.hid hok
      have hit : (w1.iter ⟨s.toArray⟩ i).iterPos w1.heap.size = i := World.iterPos_iter _ _ _
      clear hd he hok HOK
      generalize (chAt s i).n = n at *
      generalize (chAt s i).r = r at *
      have hr2 : r < 1114112 := by unfold Scal at hrs; omega
      clear hrs
      have HNS := Lib.hid (nUnits_snoc pre i r)
      generalize nUnits pre = m at *
      by_cases h16 : r < 65536
      · rw [if_pos h16] at HNS
        have d1 : decide ((65535 : Int) < r) = false := by simp; omega
        clear h16 hr2
        go_wp2_with fail
        go_roundw
        case rel => exact ⟨i + n, pre ++ [(i, r)], hle, by simp, by rw [HNS.out]; go_num, by rw [HW.out, HRN.out]; simp, HOK2.out, rfl⟩
        case measure => simp; omega
      · rw [if_neg h16] at HNS
        have d1 : decide ((65535 : Int) < r) = true := by simp; omega
        have d2 : (65535 : Int) < r := by omega
        clear h16 hr2
        go_wp2_with fail
        go_roundw
        case rel => exact ⟨i + n, pre ++ [(i, r)], hle, by simp, by rw [HNS.out]; go_num, by rw [HW.out, HRN.out]; simp, HOK2.out, rfl⟩
        case measure => simp; omega
    · have hnx := fun ty => run_next_end (P := Try.prog) w1 ⟨s.toArray⟩ i ty hlt
      have hend : runesF s 0 = pre := by rw [HW.out, runesF_end (by omega), List.append_nil]
      have HEND := Lib.hid hend
      clear hend hok HOK
      go_wp2_with fail
      go_ret3
      refine ⟨?_, HB1.out.alloc hs1 _⟩
      unfold unitsF
      rw [HEND.out]
      rfl
end Go.Proofs.Ytmdgopclcdmenaa
