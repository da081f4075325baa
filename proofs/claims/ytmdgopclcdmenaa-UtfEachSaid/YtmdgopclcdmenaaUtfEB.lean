/- The walk of UtfEach. -/
import Derived.Test.YtmdgopclcdmenaaUtfEC
import Derived.Test.YtmdgopclcdmenaaUtfF
import Derived.Laws.EntriesVeiled
namespace Go.Proofs.Ytmdgopclcdmenaa
open Go.RowKit Go.Shelf
set_option linter.unusedSimpArgs false
set_option linter.unusedVariables false
attribute [local go_sem] Oper.semAt_some

theorem each_leave {n B b4 : Nat} {ds : List Deferred} {w W : World} {tmps : Array Value} (ht : tmps[4]? = some (.pointer (some ⟨b4, 0, none⟩))) (hb : Boxed W b4 4 (.bool true)) (hB : Below w.heap.size w W) (hm : Marks w.heap.size B ds W) :
    LeavesInM Fence.wide n Try.prog Try.f5 tmps (fun e w' => e = .returned (.bool true) ∧ Below w.heap.size w w') ds .returning W := by
  refine leaves_marks (B0 := w.heap.size) (fun W => Boxed W b4 4 (.bool true) ∧ Below w.heap.size w W) ?_ ?_ ds B W ⟨hb, hB⟩ hm
  · rintro W D ⟨g1, g2⟩ hD hh
    exact ⟨g1.kept (grownBy_putObj' W D _) (fun e => by cases e; rw [show W.heap[b4]? = _ from g1] at hh; cases hh), g2.trans (belowK_b (w := w) (Nat.le_refl _) W D _ _ hD hh rfl rfl)⟩
  · rintro W ⟨g1, g2⟩
    have hc := g1.cell
    refine ⟨.bool true, ?_, rfl, g2⟩
    simp [results, Try.f5, go_sem, hc, ht]

theorem not_nil (p : Value) (W : World) : (binOp .eql 45 (.func (.func 51) #[] #[p]) .nilFunc).run Try.prog W = .ok (.bool false) W := by kernel_rfl

set_option maxRecDepth 100000 in
set_option maxHeartbeats 4000000 in
theorem each_walk (n : Nat) (h9 : 9 ≤ n) (stop : Int) (s : List UInt8) (w : World) (hs : s.length ≤ 9223372036854775807) :
    CallsIn Fence.wide n Try.prog 5 #[.string ⟨s.toArray⟩, .int .i64 stop] w fun e w' => e = .returned (.bool true) ∧ Below w.heap.size w w' := by
  refine callsIn_of_wp_marks Try.func5 rfl trivial ?_ rfl
  simp only [Try.ntmps5, List.size_toArray, List.length_cons, List.length_nil, Nat.reduceAdd, Nat.reduceSub, Array.replicate_succ, Array.replicate_zero, List.push_toArray, List.append_toArray, List.nil_append, List.cons_append]
  have HB := Lib.hid (fun W => beyond_any s.length W hs)
  have bS := Boxed.new w 3 (.int .i64 stop)
  have bR := Boxed.new (w.alloc (.cells #[.int .i64 stop] 3)) 4 (.bool false)
  have hB0 : Below w.heap.size w ((w.alloc (.cells #[.int .i64 stop] 3)).alloc (.cells #[.bool false] 4)) := ((Below.refl _ w).alloc (Nat.le_refl _) _).alloc (by simp) _
  have bS := bS.alloc (.cells #[.bool false] 4)
  have hsz : ((w.alloc (.cells #[.int .i64 stop] 3)).alloc (.cells #[.bool false] 4)).heap.size = w.heap.size + 2 := by simp
  rw [World.size_alloc] at bR
  gi_wp2_with fail
  generalize (w.alloc (.cells #[.int .i64 stop] 3)).alloc (.cells #[.bool false] 4) = w1 at *
  refine ⟨trivial, fun _ => by omega, (callsIn_wide.2 (HB.out _)).mono ?_⟩
  rintro e w2 ⟨rfl, rfl⟩
  by_cases hbig : 2147483647 < s.length
  · have d0 : decide (2147483647 < s.length) = true := decide_eq_true hbig
    rw [d0]
    have cR := bR.cell
    have fR := bR.frozen
    clear hbig d0 HB
    gi_wp2_with fail
    exact each_leave (B := 0) rfl (bR.set _) (hB0.setCell (p := ⟨w.heap.size + 1, 0, none⟩) (by simp) _) trivial
  have d0 : decide (2147483647 < s.length) = false := decide_eq_false hbig
  rw [d0]
  have hs2 : s.length ≤ 2147483647 := by omega
  clear hs hbig d0 HB
  have HN := Lib.hid (fun W => rrunes_any s W (by omega))
  have HU := Lib.hid (fun W => rright_any s W (by omega))
  unfold RunesPost at HN
  have hlA := runesF_len s _ 0 rfl
  gi_wp2_with fail
  refine ⟨trivial, fun _ => by omega, (callsIn_wide.2 (HN.out _)).mono ?_⟩
  rintro e w3 ⟨A1, c1, A2, c2, rfl, hv1, hv2, hc1, hc2, b3⟩
  have bS3 : Boxed w3 w.heap.size 3 (.int .i64 stop) := (b3.block _ bS.lt).trans bS
  have bR3 : Boxed w3 (w.heap.size + 1) 4 (.bool false) := (b3.block _ bR.lt).trans bR
  have hB3 := hB0.trans (b3.mono hB0.size)
  have hsz3 := b3.size
  rw [hsz] at hsz3
  clear bS bR b3 hB0 hsz
  have hl5 := (Boxed.new w3 39 (.slice A1 (runesF s 0).length c1)).alloc (.cells #[.slice A2 (runesF s 0).length c2] 40)
  have hl6 := Boxed.new (w3.alloc (.cells #[.slice A1 (runesF s 0).length c1] 39)) 40 (.slice A2 (runesF s 0).length c2)
  rw [World.size_alloc] at hl6
  have hB4 : Below w3.heap.size w3 ((w3.alloc (.cells #[.slice A1 (runesF s 0).length c1] 39)).alloc (.cells #[.slice A2 (runesF s 0).length c2] 40)) := ((Below.refl _ w3).alloc (Nat.le_refl _) _).alloc (by simp) _
  have hsz4 : ((w3.alloc (.cells #[.slice A1 (runesF s 0).length c1] 39)).alloc (.cells #[.slice A2 (runesF s 0).length c2] 40)).heap.size = w3.heap.size + 2 := by simp
  gi_wp2_with fail
  generalize (w3.alloc (.cells #[.slice A1 (runesF s 0).length c1] 39)).alloc (.cells #[.slice A2 (runesF s 0).length c2] 40) = w4 at *
  refine ⟨trivial, fun _ => by omega, (callsIn_wide.2 (HU.out _)).mono ?_⟩
  rintro e w5 ⟨rfl, rfl⟩
  have hB5 := hB4
  have hsz5 : w3.heap.size + 2 ≤ w4.heap.size := by omega
  clear hB4 hsz4
  cases hr : right s
  case' false =>
    have hL : eachL s = [] := by unfold eachL; rw [hr]; rfl
    have c5 := hl5.cell
    have f5 := hl5.frozen
    have c6 := hl6.cell
    have f6 := hl6.frozen
    gi_wp2_with fail
    have hl5 : Boxed ((w4.setCell ⟨w3.heap.size, 0, none⟩ (.slice none 0 0)).setCell ⟨w3.heap.size + 1, 0, none⟩ (.slice none 0 0)) w3.heap.size 39 (.slice none (eachL s).length 0) := by
      rw [hL]; exact (hl5.set _).other (by omega) _
    have hl6 : Boxed ((w4.setCell ⟨w3.heap.size, 0, none⟩ (.slice none 0 0)).setCell ⟨w3.heap.size + 1, 0, none⟩ (.slice none 0 0)) (w3.heap.size + 1) 40 (.slice none (eachL s).length 0) := by
      rw [hL]; exact (hl6.other (by omega) _).set _
    have hB5 : Below w3.heap.size w3 ((w4.setCell ⟨w3.heap.size, 0, none⟩ (.slice none 0 0)).setCell ⟨w3.heap.size + 1, 0, none⟩ (.slice none 0 0)) := (hB5.setCell (p := ⟨w3.heap.size, 0, none⟩) (Nat.le_refl _) _).setCell (p := ⟨w3.heap.size + 1, 0, none⟩) (by simp) _
    have hsz5 : w3.heap.size + 2 ≤ ((w4.setCell ⟨w3.heap.size, 0, none⟩ (.slice none 0 0)).setCell ⟨w3.heap.size + 1, 0, none⟩ (.slice none 0 0)).heap.size := by simpa using hsz5
    generalize (w4.setCell ⟨w3.heap.size, 0, none⟩ (.slice none 0 0)).setCell ⟨w3.heap.size + 1, 0, none⟩ (.slice none 0 0) = W4 at *
    obtain ⟨A1', c1', hl5, hv1⟩ : ∃ A c, Boxed W4 w3.heap.size 39 (.slice A (eachL s).length c) ∧ RV w3 w3.heap.size A (eachL s).length ((eachL s).map fun x => rv_ x.2) := ⟨none, 0, hl5, by rw [hL]; exact RV.nil _ _ _⟩
    obtain ⟨A2', c2', hl6, hv2⟩ : ∃ A c, Boxed W4 (w3.heap.size + 1) 40 (.slice A (eachL s).length c) ∧ RV w3 w3.heap.size A (eachL s).length ((eachL s).map fun x => iv_ x.1) := ⟨none, 0, hl6, by rw [hL]; exact RV.nil _ _ _⟩
    have hlA : (eachL s).length ≤ s.length := by rw [hL]; simp
    clear hL c5 f5 c6 f6
  case' true =>
    have hL : eachL s = runesF s 0 := by unfold eachL; rw [if_pos hr]
    rw [← hL] at hl5 hl6 hlA hv1 hv2
    gi_wp2_with fail
    obtain ⟨W4, hW4⟩ : ∃ W, w4 = W := ⟨_, rfl⟩
    rw [hW4] at hl5 hl6 hB5 hsz5 ⊢
    obtain ⟨A1', c1', hl5, hv1⟩ : ∃ A c, Boxed W4 w3.heap.size 39 (.slice A (eachL s).length c) ∧ RV w3 w3.heap.size A (eachL s).length ((eachL s).map fun x => rv_ x.2) := ⟨A1, c1, hl5, hv1⟩
    obtain ⟨A2', c2', hl6, hv2⟩ : ∃ A c, Boxed W4 (w3.heap.size + 1) 40 (.slice A (eachL s).length c) ∧ RV w3 w3.heap.size A (eachL s).length ((eachL s).map fun x => iv_ x.1) := ⟨A2, c2, hl6, hv2⟩
    have hlA : (eachL s).length ≤ s.length := by omega
    clear hL hW4
  all_goals
    have bn := Boxed.new W4 9 (.string ⟨s.toArray⟩)
    refine ⟨trivial, fun _ => by omega, (callsIn_wide.2 (each_any s _)).mono ?_⟩
    rintro e w6 ⟨rfl, rfl⟩
    have b7 := Boxed.new (W4.alloc (.cells #[.string ⟨s.toArray⟩] 9)) 45 (.func (.func 51) #[] #[.pointer (some ⟨W4.heap.size, 0, none⟩)])
    rw [World.size_alloc] at b7
    have c7 := b7.cell
    have hE : EaS s w3 w3.heap.size (w3.heap.size + 1) W4.heap.size (W4.heap.size + 1) A1' A2' c1' c2' ((W4.alloc (.cells #[.string ⟨s.toArray⟩] 9)).alloc (.cells #[.func (.func 51) #[] #[.pointer (some ⟨W4.heap.size, 0, none⟩)]] 45)) :=
      ⟨(hB5.alloc hB5.size _).alloc (Nat.le_trans hB5.size (by simp)) _, (hl5.alloc _).alloc _, (hl6.alloc _).alloc _, bn.alloc _, b7⟩
    have hsz7 : ((W4.alloc (.cells #[.string ⟨s.toArray⟩] 9)).alloc (.cells #[.func (.func 51) #[] #[.pointer (some ⟨W4.heap.size, 0, none⟩)]] 45)).heap.size = W4.heap.size + 2 := by simp
    have hnn := fun W => not_nil (.pointer (some ⟨W4.heap.size, 0, none⟩)) W
    have hE8 := hE.alloc (.cells #[.int .i64 0] 3)
    have hb8 := Boxed.new ((W4.alloc (.cells #[.string ⟨s.toArray⟩] 9)).alloc (.cells #[.func (.func 51) #[] #[.pointer (some ⟨W4.heap.size, 0, none⟩)]] 45)) 3 (.int .i64 0)
    rw [hsz7] at hb8
    clear HN HU hE hl5 hl6 hB5 bn b7
    gi_wp2_with fail
    refine each_loop n h9 stop s (by omega) (by omega) w w3 (by omega) w.heap.size (w.heap.size + 1) w3.heap.size (w3.heap.size + 1) (W4.heap.size + 1) W4.heap.size (W4.heap.size + 2) A1' A2' c1' c2' bS3 bR3 hv1 hv2 (by omega) (W4.heap.size + 2) (Nat.le_refl _) _ _ _ _ _ _ _ _ _ _ _ _ _ _ _ _ _ _ _ _ _ _ _ _ _ _ _ _ _ _ _ _ _ _ _ _ _ _ _ _ _ _ _ _ _ _ _ _ _ _ _ _ _ _ _ _ _ _ _ _ _ _ _ _ _ _ _ _ _ _ _ _ _ _ _ _ _ _ _ _ _ _ _ _ _ _ _ _ _ _ _ _ _ _ _ _ _ _ _ _ _ _ _ _ _ _ _ _ _ _ _ _ _ _ _ _ hE8 hb8 _ ?_
    clear hE8 hb8
    intro u8 u9 u10 u11 u12 u13 u14 u15 u16 u17 u18 u19 u20 u21 u22 u23 u24 u25 u26 u27 u28 u29 u30 u31 u32 u33 u34 u35 u36 u37 u38 u39 u40 u41 u42 u43 u44 u45 u46 u47 u48 u49 u50 u51 u52 u53 u54 u55 u56 u57 u58 u59 u60 u61 u62 u63 u64 u65 u66 u67 u68 u69 u70 u71 u72 u73 u74 u75 u76 u77 u78 u79 u80 u81 u82 u83 u84 u85 u86 u87 u88 u89 u90 u91 u92 u93 u94 u95 u96 u97 u98 u99 u100 u101 u102 u103 u104 u105 u106 u107 u108 u109 u110 u111 u112 u113 u114 u115 u116 u117 u118 u119 u120 u121 u122 u123 ds W hE hM
    have bT := Boxed.new W 3 (.int .i64 0)
    have hE1 := hE.alloc (.cells #[.int .i64 0] 3)
    have hM1 : Marks w.heap.size (W.alloc (.cells #[.int .i64 0] 3)).heap.size ds (W.alloc (.cells #[.int .i64 0] 3)) := (hM.others (KeepsOthers.alloc _ _)).mono (by simp)
    have hsW := hE.bel.size
    have hsz1 : (W.alloc (.cells #[.int .i64 0] 3)).heap.size = W.heap.size + 1 := by simp
    have c7 := hE1.l7.cell
    have hln := hE.ln.lt
    have hl7 := hE.l7.lt
    clear hE hM
    gi_wp2_with fail
    generalize W.alloc (.cells #[.int .i64 0] 3) = W1 at *
    refine each_twice n h9 stop s (by omega) (by omega) w w3 (by omega) w.heap.size (w.heap.size + 1) w3.heap.size (w3.heap.size + 1) (W4.heap.size + 1) W4.heap.size (W4.heap.size + 2) A1' A2' c1' c2' bS3 bR3 hv1 hv2 (by omega) W.heap.size (by omega) _ _ _ _ undef _ _ _ _ _ _ _ _ _ _ _ _ _ _ _ _ _ _ _ _ _ _ _ _ _ _ _ _ _ _ _ _ _ _ _ _ _ _ _ _ _ _ _ _ _ _ _ _ _ _ _ _ _ _ _ _ _ _ _ _ _ _ _ _ _ _ _ _ _ undef _ _ _ _ _ _ _ _ _ _ _ _ _ _ _ _ _ _ _ _ _ _ _ _ _ _ _ _ _ _ _ _ _ _ _ _ _ _ _ _ _ ds _ hE1 bT hM1 _ ?_ ?_
    · intro D W' hD hE' hb' hM'
      have c4 := (hE'.bel.cell (p := ⟨w.heap.size + 1, 0, none⟩) bR3.lt).trans bR3.cell
      have f4 := (hE'.bel.frozen (p := ⟨w.heap.size + 1, 0, none⟩) bR3.lt).trans bR3.frozen
      have c12 := hb'.cell
      have c5 := hE'.l5.cell
      have t1 : (((eachL s).length : Int) == ((eachL s).length : Int)) = true := by simp
      have hbR : Boxed W' (w.heap.size + 1) 4 (.bool false) := (hE'.bel.block _ bR3.lt).trans bR3
      have HL := Lib.hid (fun tmps ht => each_leave (n := n) (tmps := tmps) (b4 := w.heap.size + 1) ht (hbR.set (.bool true)) ((hB3.trans (hE'.bel.mono (by omega))).setCell (p := ⟨w.heap.size + 1, 0, none⟩) (by simp) _) (hM'.others (KeepsOthers.setCell _ _ _)))
      clear hbR hE' hM' hb' hE1 hM1 bT hv1 hv2
      obtain ⟨g, hg⟩ : ∃ g, (((eachL s).length : Int) == 2) = g := ⟨_, rfl⟩
      cases g
      all_goals
        gi_wp2_with fail
        exact HL.out _ rfl
    · intro D W' hD hE' hb' hM'
      have c4 := (hE'.bel.cell (p := ⟨w.heap.size + 1, 0, none⟩) bR3.lt).trans bR3.cell
      have f4 := (hE'.bel.frozen (p := ⟨w.heap.size + 1, 0, none⟩) bR3.lt).trans bR3.frozen
      have c12 := hb'.cell
      have c5 := hE'.l5.cell
      have hbR : Boxed W' (w.heap.size + 1) 4 (.bool false) := (hE'.bel.block _ bR3.lt).trans bR3
      have HL := Lib.hid (fun tmps ht => each_leave (n := n) (tmps := tmps) (b4 := w.heap.size + 1) ht (hbR.set (.bool true)) ((hB3.trans (hE'.bel.mono (by omega))).setCell (p := ⟨w.heap.size + 1, 0, none⟩) (by simp) _) (hM'.others (KeepsOthers.setCell _ _ _)))
      clear hbR hE' hM' hb' hE1 hM1 bT hv1 hv2
      gi_wp2_with fail
      exact HL.out _ rfl
end Go.Proofs.Ytmdgopclcdmenaa
