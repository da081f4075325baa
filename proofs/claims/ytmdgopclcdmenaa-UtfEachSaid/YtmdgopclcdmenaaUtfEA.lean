/- The iterator over a text's characters: its contract. -/
import Derived.RangeFuncNested
import Derived.RangeFuncBound
import Derived.RangeFuncCalls
import Derived.RangeFuncLeaves
import Derived.Shelf.Abstract
import Derived.Shelf.RegionOpen
import Derived.WalkKit
import Derived.OwnWalkIn
import Derived.TacticsInMore
import Derived.LoopNIn
import Derived.LoopIn
import Derived.Test.YtmdgopclcdmenaaUtfY
namespace Go.Proofs.Ytmdgopclcdmenaa
open Go.RowKit Go.Shelf
set_option linter.unusedSimpArgs false
set_option linter.unusedVariables false
attribute [local go_sem] Oper.semAt_some

/-- What is handed over: the place, the character. -/
def encs (x : Nat × Nat) : Array Value := #[.int .i64 (x.1 : Nat), .int .i32 (x.2 : Nat)]
/-- What comes. -/
def eachL (s : List UInt8) : List (Nat × Nat) := if right s = true then runesF s 0 else []

set_option maxRecDepth 100000 in
set_option maxHeartbeats 2000000 in
theorem each1_in (n : Nat) (hn : 1 ≤ n) (l Bn : Nat) (s : List UInt8) (hs : s.length ≤ 4294967296) (J Jx : List (Nat × Nat) → World → Prop) (W : World) (hJ : AbidesFrom W.heap.size J) (hJx : AbidesFrom W.heap.size Jx)
    (hY : ∀ pre x W1, J pre W1 → pre.length < (eachL s).length → YieldAt Fence.wide (n - 1) Try.prog l (encs x) W1 fun e W' =>
      (e = .returned (.bool true) ∧ J (pre ++ [x]) W' ∧ KeepsWalks W1 W') ∨ (e = .returned (.bool false) ∧ Jx (pre ++ [x]) W'))
    (hBlt : Bn < W.heap.size) (hBn : W.cell? ⟨Bn, 0, none⟩ = some (.string ⟨s.toArray⟩)) (h0 : J [] W) :
    CallsIn Fence.wide n Try.prog 51 #[.func (.yield l) #[] #[], .pointer (some ⟨Bn, 0, none⟩)] W fun e W' => (∃ v, e = .returned v) ∧
      ((∃ ys, ys = eachL s ∧ J ys W') ∨ (∃ pre, pre <+: eachL s ∧ Jx pre W')) := by
  have HR := Lib.hid (fun W => uright_any s W (by omega))
  obtain ⟨L, hL⟩ : ∃ L, eachL s = L := ⟨_, rfl⟩
  rw [hL] at hY ⊢
  refine callsIn_of_wp Try.func51 rfl trivial ?_ rfl
  simp only [Try.ntmps51, List.size_toArray, List.length_cons, List.length_nil, Nat.reduceAdd, Nat.reduceSub, Array.replicate_succ, Array.replicate_zero, List.push_toArray, List.append_toArray, List.nil_append, List.cons_append]
  gi_wp2_with fail
  refine ⟨trivial, (callsIn_wide.2 (HR.out _)).mono ?_⟩
  rintro e w1 ⟨rfl, b1⟩
  have g1 : W.grownBy w1 none := ⟨b1.os, b1.tape, b1.output, b1.size, fun k hk _ => b1.block k hk⟩
  have j1 := hJ _ _ _ _ h0 g1 (fun r e => by cases e)
  have c1 := (b1.cell (p := ⟨Bn, 0, none⟩) hBlt).trans hBn
  by_cases hr : right s = true
  · rw [hr]
    obtain rfl : runesF s 0 = L := by rw [← hL]; unfold eachL; rw [if_pos hr]
    clear hL
    have HOK := Lib.hid (right_ok hr)
    clear hr
    have ga := World.grownBy_alloc w1 (.stringIter ⟨s.toArray⟩ 0) none
    have j2 : J [] (w1.iter ⟨s.toArray⟩ 0) := hJ _ _ _ _ j1 ga (fun r e => by cases e)
    have hit0 := IsIt.new w1 ⟨s.toArray⟩ 0
    have hgW := b1.size
    clear g1 j1 b1 h0 hBn ga
    gi_wp2_with fail
    gi_loopw [3] (fun _ wr => ∃ (i : Nat) (pre : List (Nat × Nat)), i ≤ s.length ∧ runesF s 0 = pre ++ runesF s i ∧ wrongF s i = (0, 0) ∧ J pre wr ∧ IsIt wr w1.heap.size ⟨s.toArray⟩ i) (fun _ wr => s.length - wr.iterPos w1.heap.size)
    case atStart => exact ⟨0, [], by omega, rfl, HOK.out, j2, hit0⟩
    case round =>
      obtain ⟨i, pre, hi, hw, hok, hj, hit⟩ := hrel
      clear hit0 j2
      by_cases hlt : i < s.length
      · have he := ok_at hlt hok
        have hd := dec_eq hlt he
        have hnx := fun ty => run_next_at (P := Try.prog) ty hit hlt
        rw [hd] at hnx
        simp only at hnx
        have hle := chAt_len hlt
        have hpos := ch_pos s i he
        have hon := runesF_on hlt he
        rw [hon] at hw
        have hlen : pre.length < (runesF s 0).length := by rw [hw]; simp
        rw [wrongF_on hlt he] at hok
        have HK := Lib.hid hok
        have HW := Lib.hid hw
        have hpz : wr.iterPos w1.heap.size = i := iterPos_of hit
        clear hd he hok hw hon HOK
        generalize (chAt s i).n = n' at *
        generalize (chAt s i).r = r at *
        have hg2 : wr.grownBy (itSet wr w1.heap.size ⟨s.toArray⟩ (i + n')) (some w1.heap.size) := ⟨rfl, rfl, rfl, by simp [itSet], fun k _ hk => by simp [itSet, Array.getElem?_setIfInBounds]; intro e; exact absurd (congrArg some e.symm) hk⟩
        have hj2 := hJ _ _ _ _ hj hg2 (fun r e => by cases e; exact ⟨hgW, _, hit, rfl⟩)
        have hit2 : IsIt (itSet wr w1.heap.size ⟨s.toArray⟩ (i + n')) w1.heap.size ⟨s.toArray⟩ (i + n') := hit.set
        obtain ⟨fn, tmps, assign, body, hy, hRr⟩ := hY pre (i, r) _ hj2 hlen
        dsimp only [encs] at hy
        clear hj hg2 hj2
        generalize hW2 : itSet wr w1.heap.size ⟨s.toArray⟩ (i + n') = W2 at *
        gi_wp2
        refine hRr.mono ?_
        rintro e W3 (⟨rfl, hJ3, hk3⟩ | ⟨rfl, hJx3⟩)
        · have hit3 : IsIt W3 w1.heap.size ⟨s.toArray⟩ (i + n') := hk3.same _ _ hit2 rfl
          gi_wp2
          go_roundw
          case rel => exact ⟨i + n', pre ++ [(i, r)], hle, by rw [HW.out]; simp, HK.out, hJ3, hit3⟩
          case measure => rw [iterPos_of hit3, hpz]; omega
        · gi_wp2
          refine bodyPost_ret (results_none rfl _ _ _) rfl ?_
          exact ⟨⟨_, rfl⟩, .inr ⟨pre ++ [(i, r)], ⟨_, by rw [HW.out]; simp; rfl⟩, hJx3⟩⟩
      · have hnx := fun ty => run_next_out (P := Try.prog) ty hit hlt
        have hend : runesF s 0 = pre := by rw [hw, runesF_end (by omega), List.append_nil]
        have HEND := Lib.hid hend
        clear hend hok hw HOK
        gi_wp2
        go_end0
        exact ⟨⟨_, rfl⟩, .inl ⟨_, HEND.out.symm, hj⟩⟩
  · have hr : right s = false := by simpa using hr
    rw [hr]
    obtain rfl : [] = L := by rw [← hL]; unfold eachL; rw [if_neg (by rw [hr]; simp)]
    clear hL
    gi_wp2_with fail
    refine bodyPost_ret (results_none rfl _ _ _) rfl ?_
    exact ⟨⟨_, rfl⟩, .inl ⟨[], rfl, j1⟩⟩

/-- What Each hands back keeps its word to a loop that leaves the iterators as they lie. -/
theorem each_stops (n : Nat) (hn : 1 ≤ n) (Bn : Nat) (s : List UInt8) (hs : s.length ≤ 4294967296) (w : World) (hb : Boxed w Bn 9 (.string ⟨s.toArray⟩)) :
    SeqStopsK Fence.wide n Try.prog 51 #[.pointer (some ⟨Bn, 0, none⟩)] encs KeepsWalks (fun ys => ys = eachL s) (fun pre => pre <+: eachL s) (eachL s).length w := fun l J Jx W hW hJ hJx hY h0 =>
  each1_in n hn l Bn s hs J Jx W hJ hJx hY (Nat.lt_of_lt_of_le hb.lt hW.size) ((hW.cell (p := ⟨Bn, 0, none⟩) hb.lt).trans hb.cell) h0

theorem each_any (s : List UInt8) (w : World) : Calls Try.prog 26 #[.string ⟨s.toArray⟩] w fun e w' => e = .returned (.func (.func 51) #[] #[.pointer (some ⟨w.heap.size, 0, none⟩)]) ∧ w' = w.alloc (.cells #[.string ⟨s.toArray⟩] 9) := by
  go_enter Try.func26, Try.ntmps26
  go_wp2
  go_ret
  exact ⟨rfl, rfl⟩

/-! Marks: what loops over functions leave behind. -/
def Marks (B0 : Nat) : Nat → List Deferred → World → Prop
  | _, [], _ => True
  | B, d :: ds, W => ∃ D, d = { target := .collected D, args := #[] } ∧ D < B ∧ B0 ≤ D ∧ W.heap[D]? = some (.deferred (some [])) ∧ Marks B0 D ds W
theorem Marks.mono {B0 B B' : Nat} (h : B ≤ B') : ∀ {ds : List Deferred} {W : World}, Marks B0 B ds W → Marks B0 B' ds W
  | [], _, _ => trivial
  | _ :: _, _, ⟨D, h1, h2, h3, h4, h5⟩ => ⟨D, h1, by omega, h3, h4, h5⟩
theorem Marks.keep {B0 : Nat} {W W' : World} : ∀ {ds : List Deferred} {B : Nat}, (∀ D, D < B → W.heap[D]? = some (.deferred (some [])) → W'.heap[D]? = some (.deferred (some []))) → Marks B0 B ds W → Marks B0 B ds W'
  | [], _, _, _ => trivial
  | _ :: _, B, hk, ⟨D, h1, h2, h3, h4, h5⟩ => ⟨D, h1, h2, h3, hk D h2 h4, Marks.keep (fun E hE => hk E (by omega)) h5⟩
theorem Marks.others {B0 B : Nat} {W W' : World} {ds : List Deferred} (hk : KeepsOthers W W') (h : Marks B0 B ds W) : Marks B0 B ds W' := h.keep (fun D _ hD => hk.same D _ hD rfl)
theorem Marks.own {β : Type} {B0 B : Nat} {ds : List Deferred} : OwnFrom B (fun (_ : β) W => Marks B0 B ds W) := fun _ W W' row hs hg hr =>
  hs.keep (fun D hD hh => (hg.block D (Array.getElem?_eq_some_iff.1 hh).1 (fun e => by have := (hr D e.symm).1; omega)).trans hh)
theorem _root_.Go.OwnFrom.mono_B {β : Type} {B B' : Nat} {I : β → World → Prop} (h : OwnFrom B I) (hB : B ≤ B') : OwnFrom B' I := fun x W W' row hs hg hr => h x W W' row hs hg (fun r e => ⟨Nat.le_trans hB (hr r e).1, (hr r e).2⟩)
theorem leaves_marks {F : Fence} {n : Nat} {P : Program} {fn : Func} {tmps : Array Value} {R : Ending → World → Prop} {B0 : Nat} (G : World → Prop) (hG : ∀ W D, G W → B0 ≤ D → W.heap[D]? = some (.deferred (some [])) → G (W.putObj D (.deferred none)))
    (hend : ∀ W, G W → LeavesIn F n P fn tmps R [] .returning W) : ∀ (ds : List Deferred) (B : Nat) (W : World), G W → Marks B0 B ds W → LeavesInM F n P fn tmps R ds .returning W
  | [], _, W, g, _ => hend W g
  | d :: ds, B, W, g, ⟨D, h1, h2, h3, h4, h5⟩ => by
    refine ⟨by simp, .inl ⟨D, _, by rw [h1], run_takeDeferred h4, ?_⟩⟩
    exact leaves_marks G hG hend ds D _ (hG _ _ g h3 h4) (h5.keep (fun E hE hh => (World.putObj_heap_other (by omega)).trans hh))

/-- What holds around the loops: the world behind Runes as it was; the variables' boxes. -/
structure EaS (s : List UInt8) (w1 : World) (b5 b6 bn b7 : Nat) (A1 A2 : Option Addr) (c1 c2 : Nat) (W : World) : Prop where
  bel : Below w1.heap.size w1 W
  l5 : Boxed W b5 39 (.slice A1 (eachL s).length c1)
  l6 : Boxed W b6 40 (.slice A2 (eachL s).length c2)
  ln : Boxed W bn 9 (.string ⟨s.toArray⟩)
  l7 : Boxed W b7 45 (.func (.func 51) #[] #[.pointer (some ⟨bn, 0, none⟩)])
section
variable {s : List UInt8} {w1 : World} {b5 b6 bn b7 : Nat} {A1 A2 : Option Addr} {c1 c2 : Nat} {W : World}
theorem EaS.alloc (h : EaS s w1 b5 b6 bn b7 A1 A2 c1 c2 W) (o : Obj) : EaS s w1 b5 b6 bn b7 A1 A2 c1 c2 (W.alloc o) := ⟨h.bel.alloc h.bel.size _, h.l5.alloc _, h.l6.alloc _, h.ln.alloc _, h.l7.alloc _⟩
theorem EaS.set (h : EaS s w1 b5 b6 bn b7 A1 A2 c1 c2 W) {b : Nat} (h0 : w1.heap.size ≤ b) (h5 : b5 ≠ b) (h6 : b6 ≠ b) (hn : bn ≠ b) (h7 : b7 ≠ b) (v : Value) : EaS s w1 b5 b6 bn b7 A1 A2 c1 c2 (W.setCell ⟨b, 0, none⟩ v) :=
  ⟨h.bel.setCell (p := ⟨b, 0, none⟩) h0 _, h.l5.other h5 v, h.l6.other h6 v, h.ln.other hn v, h.l7.other h7 v⟩
theorem EaS.own {β : Type} {B : Nat} (hB : w1.heap.size ≤ B) : OwnFrom B (fun (_ : β) W => EaS s w1 b5 b6 bn b7 A1 A2 c1 c2 W) := fun x W W' row hs hg hr =>
  ⟨ownFrom_below (β := β) (n₀ := w1.heap.size) (w₀ := w1) (Nat.le_refl _) hB x W W' row hs.bel hg hr, (Own.from (boxed_own (β := β) b5 _ (fun _ => _)) B) x W W' row hs.l5 hg hr, (Own.from (boxed_own (β := β) b6 _ (fun _ => _)) B) x W W' row hs.l6 hg hr,
    (Own.from (boxed_own (β := β) bn _ (fun _ => _)) B) x W W' row hs.ln hg hr, (Own.from (boxed_own (β := β) b7 _ (fun _ => _)) B) x W W' row hs.l7 hg hr⟩
end
theorem ownFrom_box {β : Type} {B b : Nat} {t : TypeId} {f : β → Value} : OwnFrom B (fun (x : β) W => Boxed W b t (f x)) := Own.from (boxed_own b t f) B
theorem KeepsFrom.others {W W' : World} (h : KeepsFrom 0 W W') : KeepsOthers W W' := ⟨h.size, fun k o hk ho => h.same k o (Nat.zero_le _) hk ho⟩
end Go.Proofs.Ytmdgopclcdmenaa
