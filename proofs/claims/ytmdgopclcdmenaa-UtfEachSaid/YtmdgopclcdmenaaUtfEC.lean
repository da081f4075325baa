/- The loops of UtfEach. -/
import Derived.Test.YtmdgopclcdmenaaUtfEA
import Derived.Test.YtmdgopclcdmenaaUtfF
import Derived.Laws.EntriesVeiled
namespace Go.Proofs.Ytmdgopclcdmenaa
open Go.RowKit Go.Shelf
set_option linter.unusedSimpArgs false
set_option linter.unusedVariables false
attribute [local go_sem] Oper.semAt_some

def firstLoop : Code → Option Code
  | .loop c => some c
  | .seq a b => match firstLoop a with
    | some c => some c
    | none => firstLoop b
  | .block _ c => firstLoop c
  | .scope c => firstLoop c
  | .cond _ a b => match firstLoop a with
    | some c => some c
    | none => firstLoop b
  | _ => none
def outRange : Code → Option Code
  | .rangeFunc g ps a b => some (.rangeFunc g ps a b)
  | .seq a b => match outRange a with
    | some c => some c
    | none => outRange b
  | .block _ c => outRange c
  | .scope c => outRange c
  | .cond _ a b => match outRange a with
    | some c => some c
    | none => outRange b
  | _ => none
noncomputable def loop5 : Code := ((Try.f5.body.bind firstLoop).getD .skip)
noncomputable def twice5 : Code := ((Try.f5.body.bind outRange).getD .skip)
theorem OwnFrom.or {β : Type} {B : Nat} {I J : β → World → Prop} (h : OwnFrom B I) (k : OwnFrom B J) : OwnFrom B (fun x W => I x W ∨ J x W) := fun x W W' row hs hg hr => hs.elim (fun a => .inl (h x W W' row a hg hr)) (fun a => .inr (k x W W' row a hg hr))
/-- Where an element lies. -/
theorem rv_at {W : World} {B : Nat} {A : Option Addr} {α : Type} {l : List α} {f : α → Value} (h : RV W B A l.length (l.map f)) {i : Nat} (hi : i < l.length) : ∃ g o, A = some ⟨g, o, none⟩ ∧ g < B ∧ W.cell? ⟨g, o + i, none⟩ = some (f l[i]) := by
  obtain ⟨g, o, rfl, hg, hc⟩ := h.2 (by omega)
  exact ⟨g, o, rfl, hg, by rw [hc i (by simpa using hi)]; simp⟩
theorem pre_at {α : Type} {l pre : List α} (h : pre <+: l) (hl : pre.length < l.length) : pre ++ [l[pre.length]] <+: l := by
  obtain ⟨t, rfl⟩ := h
  cases t with
  | nil => simp at hl
  | cons x t => exact ⟨t, by simp⟩
theorem pre_not {α : Type} {l pre : List α} {x : α} (hl : pre.length < l.length) (h : pre ++ [x] <+: l) : x = l[pre.length] := by
  obtain ⟨t, ht⟩ := h
  subst ht
  simp
theorem Marks.push {B0 B D : Nat} {ds : List Deferred} {W : World} (h : Marks B0 B ds W) (hB : B ≤ D) (h0 : B0 ≤ D) (hD : W.heap[D]? = some (.deferred (some []))) : Marks B0 (D + 1) ({ target := .collected D, args := #[] } :: ds) W := ⟨D, rfl, by omega, h0, hD, h.mono hB⟩
/-- The next round's variable. -/
theorem next5 {s : List UInt8} {w w1 W : World} {b5 b6 bn b7 D : Nat} {A1 A2 : Option Addr} {c1 c2 : Nat} {ds : List Deferred} (o : Obj) (hE : EaS s w1 b5 b6 bn b7 A1 A2 c1 c2 W) (hM : Marks w.heap.size D ds W) (hD : D ≤ W.heap.size) :
    EaS s w1 b5 b6 bn b7 A1 A2 c1 c2 (W.alloc o) ∧ Marks w.heap.size (W.alloc o).heap.size ds (W.alloc o) :=
  ⟨hE.alloc _, (hM.others (KeepsOthers.alloc _ _)).mono (by simp; omega)⟩
def mu5 (a : Act) (W : World) : Nat := match a.tmps.getD 8 undef with
  | .pointer (some p) => match W.cell? p with
    | some v => 2 - (intOf v).toNat
    | none => 0
  | _ => 0

set_option maxRecDepth 100000 in
set_option maxHeartbeats 4000000 in
theorem each_loop (n : Nat) (h9 : 9 ≤ n) (stop : Int) (s : List UInt8) (hs : (eachL s).length ≤ 2147483647) (hsl : s.length ≤ 2147483647) (w w1 : World) (hw1 : w.heap.size ≤ w1.heap.size) (b3 b4 b5 b6 b7 bn m : Nat) (A1 A2 : Option Addr) (c1 c2 : Nat)
    (bS : Boxed w1 b3 3 (.int .i64 stop)) (bR : Boxed w1 b4 4 (.bool false)) (hv1 : RV w1 w1.heap.size A1 (eachL s).length ((eachL s).map fun x => rv_ x.2)) (hv2 : RV w1 w1.heap.size A2 (eachL s).length ((eachL s).map fun x => iv_ x.1))
    (hm : w1.heap.size ≤ m ∧ b5 < m ∧ b6 < m ∧ bn < m ∧ b7 < m)
    (b8 : Nat) (h8 : m ≤ b8) (u9 u10 u11 u12 u13 u14 u15 u16 u17 u18 u19 u20 u21 u22 u23 u24 u25 u26 u27 u28 u29 u30 u31 u32 u33 u34 u35 u36 u37 u38 u39 u40 u41 u42 u43 u44 u45 u46 u47 u48 u49 u50 u51 u52 u53 u54 u55 u56 u57 u58 u59 u60 u61 u62 u63 u64 u65 u66 u67 u68 u69 u70 u71 u72 u73 u74 u75 u76 u77 u78 u79 u80 u81 u82 u83 u84 u85 u86 u87 u88 u89 u90 u91 u92 u93 u94 u95 u96 u97 u98 u99 u100 u101 u102 u103 u104 u105 u106 u107 u108 u109 u110 u111 u112 u113 u114 u115 u116 u117 u118 u119 u120 u121 u122 u123 : Value) (W0 : World) (hE0 : EaS s w1 b5 b6 bn b7 A1 A2 c1 c2 W0) (hb8 : Boxed W0 b8 3 (.int .i64 0)) (Q : Exit → Act → World → Prop)
    (hQ : ∀ (u8 u9 u10 u11 u12 u13 u14 u15 u16 u17 u18 u19 u20 u21 u22 u23 u24 u25 u26 u27 u28 u29 u30 u31 u32 u33 u34 u35 u36 u37 u38 u39 u40 u41 u42 u43 u44 u45 u46 u47 u48 u49 u50 u51 u52 u53 u54 u55 u56 u57 u58 u59 u60 u61 u62 u63 u64 u65 u66 u67 u68 u69 u70 u71 u72 u73 u74 u75 u76 u77 u78 u79 u80 u81 u82 u83 u84 u85 u86 u87 u88 u89 u90 u91 u92 u93 u94 u95 u96 u97 u98 u99 u100 u101 u102 u103 u104 u105 u106 u107 u108 u109 u110 u111 u112 u113 u114 u115 u116 u117 u118 u119 u120 u121 u122 u123 : Value) (ds : List Deferred) (W : World), EaS s w1 b5 b6 bn b7 A1 A2 c1 c2 W → Marks w.heap.size W.heap.size ds W → Q (.exit 0) ⟨#[.string ⟨s.toArray⟩, .int .i64 stop, undef, .pointer (some ⟨b3, 0, none⟩), .pointer (some ⟨b4, 0, none⟩), .pointer (some ⟨b5, 0, none⟩), .pointer (some ⟨b6, 0, none⟩), .pointer (some ⟨b7, 0, none⟩), u8, u9, u10, u11, u12, u13, u14, u15, u16, u17, u18, u19, u20, u21, u22, u23, u24, u25, u26, u27, u28, u29, u30, u31, u32, u33, u34, u35, u36, u37, u38, u39, u40, u41, u42, u43, u44, u45, u46, u47, u48, u49, u50, u51, u52, u53, u54, u55, u56, u57, u58, u59, u60, u61, u62, u63, u64, u65, u66, u67, u68, u69, u70, u71, u72, u73, u74, u75, u76, u77, u78, u79, u80, u81, u82, u83, u84, u85, u86, u87, u88, u89, u90, u91, u92, u93, u94, u95, u96, u97, u98, u99, u100, u101, u102, u103, u104, u105, u106, u107, u108, u109, u110, u111, u112, u113, u114, u115, u116, u117, u118, u119, u120, u121, u122, u123], ds⟩ W) :
    (Code.loop loop5).wpIn Fence.wide n Try.prog Q ⟨#[.string ⟨s.toArray⟩, .int .i64 stop, undef, .pointer (some ⟨b3, 0, none⟩), .pointer (some ⟨b4, 0, none⟩), .pointer (some ⟨b5, 0, none⟩), .pointer (some ⟨b6, 0, none⟩), .pointer (some ⟨b7, 0, none⟩), .pointer (some ⟨b8, 0, none⟩), u9, u10, u11, u12, u13, u14, u15, u16, u17, u18, u19, u20, u21, u22, u23, u24, u25, u26, u27, u28, u29, u30, u31, u32, u33, u34, u35, u36, u37, u38, u39, u40, u41, u42, u43, u44, u45, u46, u47, u48, u49, u50, u51, u52, u53, u54, u55, u56, u57, u58, u59, u60, u61, u62, u63, u64, u65, u66, u67, u68, u69, u70, u71, u72, u73, u74, u75, u76, u77, u78, u79, u80, u81, u82, u83, u84, u85, u86, u87, u88, u89, u90, u91, u92, u93, u94, u95, u96, u97, u98, u99, u100, u101, u102, u103, u104, u105, u106, u107, u108, u109, u110, u111, u112, u113, u114, u115, u116, u117, u118, u119, u120, u121, u122, u123], []⟩ W0 := by
  refine wpIn_loop (fun a W => ∃ (u8 u9 u10 u11 u12 u13 u14 u15 u16 u17 u18 u19 u20 u21 u22 u23 u24 u25 u26 u27 u28 u29 u30 u31 u32 u33 u34 u35 u36 u37 u38 u39 u40 u41 u42 u43 u44 u45 u46 u47 u48 u49 u50 u51 u52 u53 u54 u55 u56 u57 u58 u59 u60 u61 u62 u63 u64 u65 u66 u67 u68 u69 u70 u71 u72 u73 u74 u75 u76 u77 u78 u79 u80 u81 u82 u83 u84 u85 u86 u87 u88 u89 u90 u91 u92 u93 u94 u95 u96 u97 u98 u99 u100 u101 u102 u103 u104 u105 u106 u107 u108 u109 u110 u111 u112 u113 u114 u115 u116 u117 u118 u119 u120 u121 u122 u123 : Value) (k b8 : Nat) (ds : List Deferred), u8 = .pointer (some ⟨b8, 0, none⟩) ∧ k ≤ 2 ∧ m ≤ b8 ∧ Boxed W b8 3 (.int .i64 (k : Nat)) ∧ EaS s w1 b5 b6 bn b7 A1 A2 c1 c2 W ∧ Marks w.heap.size W.heap.size ds W ∧ a = ⟨#[.string ⟨s.toArray⟩, .int .i64 stop, undef, .pointer (some ⟨b3, 0, none⟩), .pointer (some ⟨b4, 0, none⟩), .pointer (some ⟨b5, 0, none⟩), .pointer (some ⟨b6, 0, none⟩), .pointer (some ⟨b7, 0, none⟩), u8, u9, u10, u11, u12, u13, u14, u15, u16, u17, u18, u19, u20, u21, u22, u23, u24, u25, u26, u27, u28, u29, u30, u31, u32, u33, u34, u35, u36, u37, u38, u39, u40, u41, u42, u43, u44, u45, u46, u47, u48, u49, u50, u51, u52, u53, u54, u55, u56, u57, u58, u59, u60, u61, u62, u63, u64, u65, u66, u67, u68, u69, u70, u71, u72, u73, u74, u75, u76, u77, u78, u79, u80, u81, u82, u83, u84, u85, u86, u87, u88, u89, u90, u91, u92, u93, u94, u95, u96, u97, u98, u99, u100, u101, u102, u103, u104, u105, u106, u107, u108, u109, u110, u111, u112, u113, u114, u115, u116, u117, u118, u119, u120, u121, u122, u123], ds⟩) mu5 ?_ ?_
  · exact ⟨_, _, _, _, _, _, _, _, _, _, _, _, _, _, _, _, _, _, _, _, _, _, _, _, _, _, _, _, _, _, _, _, _, _, _, _, _, _, _, _, _, _, _, _, _, _, _, _, _, _, _, _, _, _, _, _, _, _, _, _, _, _, _, _, _, _, _, _, _, _, _, _, _, _, _, _, _, _, _, _, _, _, _, _, _, _, _, _, _, _, _, _, _, _, _, _, _, _, _, _, _, _, _, _, _, _, _, _, _, _, _, _, _, _, _, _, 0, b8, [], rfl, by omega, h8, hb8, hE0, trivial, rfl⟩
  intro a W h
  obtain ⟨u8, h⟩ := h
  obtain ⟨u9, h⟩ := h
  obtain ⟨u10, h⟩ := h
  obtain ⟨u11, h⟩ := h
  obtain ⟨u12, h⟩ := h
  obtain ⟨u13, h⟩ := h
  obtain ⟨u14, h⟩ := h
  obtain ⟨u15, h⟩ := h
  obtain ⟨u16, h⟩ := h
  obtain ⟨u17, h⟩ := h
  obtain ⟨u18, h⟩ := h
  obtain ⟨u19, h⟩ := h
  obtain ⟨u20, h⟩ := h
  obtain ⟨u21, h⟩ := h
  obtain ⟨u22, h⟩ := h
  obtain ⟨u23, h⟩ := h
  obtain ⟨u24, h⟩ := h
  obtain ⟨u25, h⟩ := h
  obtain ⟨u26, h⟩ := h
  obtain ⟨u27, h⟩ := h
  obtain ⟨u28, h⟩ := h
  obtain ⟨u29, h⟩ := h
  obtain ⟨u30, h⟩ := h
  obtain ⟨u31, h⟩ := h
  obtain ⟨u32, h⟩ := h
  obtain ⟨u33, h⟩ := h
  obtain ⟨u34, h⟩ := h
  obtain ⟨u35, h⟩ := h
  obtain ⟨u36, h⟩ := h
  obtain ⟨u37, h⟩ := h
  obtain ⟨u38, h⟩ := h
  obtain ⟨u39, h⟩ := h
  obtain ⟨u40, h⟩ := h
  obtain ⟨u41, h⟩ := h
  obtain ⟨u42, h⟩ := h
  obtain ⟨u43, h⟩ := h
  obtain ⟨u44, h⟩ := h
  obtain ⟨u45, h⟩ := h
  obtain ⟨u46, h⟩ := h
  obtain ⟨u47, h⟩ := h
  obtain ⟨u48, h⟩ := h
  obtain ⟨u49, h⟩ := h
  obtain ⟨u50, h⟩ := h
  obtain ⟨u51, h⟩ := h
  obtain ⟨u52, h⟩ := h
  obtain ⟨u53, h⟩ := h
  obtain ⟨u54, h⟩ := h
  obtain ⟨u55, h⟩ := h
  obtain ⟨u56, h⟩ := h
  obtain ⟨u57, h⟩ := h
  obtain ⟨u58, h⟩ := h
  obtain ⟨u59, h⟩ := h
  obtain ⟨u60, h⟩ := h
  obtain ⟨u61, h⟩ := h
  obtain ⟨u62, h⟩ := h
  obtain ⟨u63, h⟩ := h
  obtain ⟨u64, h⟩ := h
  obtain ⟨u65, h⟩ := h
  obtain ⟨u66, h⟩ := h
  obtain ⟨u67, h⟩ := h
  obtain ⟨u68, h⟩ := h
  obtain ⟨u69, h⟩ := h
  obtain ⟨u70, h⟩ := h
  obtain ⟨u71, h⟩ := h
  obtain ⟨u72, h⟩ := h
  obtain ⟨u73, h⟩ := h
  obtain ⟨u74, h⟩ := h
  obtain ⟨u75, h⟩ := h
  obtain ⟨u76, h⟩ := h
  obtain ⟨u77, h⟩ := h
  obtain ⟨u78, h⟩ := h
  obtain ⟨u79, h⟩ := h
  obtain ⟨u80, h⟩ := h
  obtain ⟨u81, h⟩ := h
  obtain ⟨u82, h⟩ := h
  obtain ⟨u83, h⟩ := h
  obtain ⟨u84, h⟩ := h
  obtain ⟨u85, h⟩ := h
  obtain ⟨u86, h⟩ := h
  obtain ⟨u87, h⟩ := h
  obtain ⟨u88, h⟩ := h
  obtain ⟨u89, h⟩ := h
  obtain ⟨u90, h⟩ := h
  obtain ⟨u91, h⟩ := h
  obtain ⟨u92, h⟩ := h
  obtain ⟨u93, h⟩ := h
  obtain ⟨u94, h⟩ := h
  obtain ⟨u95, h⟩ := h
  obtain ⟨u96, h⟩ := h
  obtain ⟨u97, h⟩ := h
  obtain ⟨u98, h⟩ := h
  obtain ⟨u99, h⟩ := h
  obtain ⟨u100, h⟩ := h
  obtain ⟨u101, h⟩ := h
  obtain ⟨u102, h⟩ := h
  obtain ⟨u103, h⟩ := h
  obtain ⟨u104, h⟩ := h
  obtain ⟨u105, h⟩ := h
  obtain ⟨u106, h⟩ := h
  obtain ⟨u107, h⟩ := h
  obtain ⟨u108, h⟩ := h
  obtain ⟨u109, h⟩ := h
  obtain ⟨u110, h⟩ := h
  obtain ⟨u111, h⟩ := h
  obtain ⟨u112, h⟩ := h
  obtain ⟨u113, h⟩ := h
  obtain ⟨u114, h⟩ := h
  obtain ⟨u115, h⟩ := h
  obtain ⟨u116, h⟩ := h
  obtain ⟨u117, h⟩ := h
  obtain ⟨u118, h⟩ := h
  obtain ⟨u119, h⟩ := h
  obtain ⟨u120, h⟩ := h
  obtain ⟨u121, h⟩ := h
  obtain ⟨u122, h⟩ := h
  obtain ⟨u123, h⟩ := h
  obtain ⟨k, b8', ds, hu8, hk, h8', hb, hE, hM, ha⟩ := h
  subst hu8
  subst ha
  clear hb8 hE0 h8
  conv => arg 4; whnf
  have c8 := hb.cell
  have hmu : mu5 ⟨#[.string ⟨s.toArray⟩, .int .i64 stop, undef, .pointer (some ⟨b3, 0, none⟩), .pointer (some ⟨b4, 0, none⟩), .pointer (some ⟨b5, 0, none⟩), .pointer (some ⟨b6, 0, none⟩), .pointer (some ⟨b7, 0, none⟩), .pointer (some ⟨b8', 0, none⟩), u9, u10, u11, u12, u13, u14, u15, u16, u17, u18, u19, u20, u21, u22, u23, u24, u25, u26, u27, u28, u29, u30, u31, u32, u33, u34, u35, u36, u37, u38, u39, u40, u41, u42, u43, u44, u45, u46, u47, u48, u49, u50, u51, u52, u53, u54, u55, u56, u57, u58, u59, u60, u61, u62, u63, u64, u65, u66, u67, u68, u69, u70, u71, u72, u73, u74, u75, u76, u77, u78, u79, u80, u81, u82, u83, u84, u85, u86, u87, u88, u89, u90, u91, u92, u93, u94, u95, u96, u97, u98, u99, u100, u101, u102, u103, u104, u105, u106, u107, u108, u109, u110, u111, u112, u113, u114, u115, u116, u117, u118, u119, u120, u121, u122, u123], ds⟩ W = 2 - k := by simp [mu5, c8, intOf]
  rw [hmu]
  clear hmu
  rcases Nat.lt_or_ge k 2 with hlt | hge
  · have t1 : decide ((k : Int) < 2) = true := decide_eq_true (by omega)
    have HK := Lib.hid hlt
    have bi := Boxed.new W 3 (.int .i64 0)
    have hE1 := hE.alloc (.cells #[.int .i64 0] 3)
    have hb1 := hb.alloc (.cells #[.int .i64 0] 3)
    have hM1 : Marks w.heap.size W.heap.size ds (W.alloc (.cells #[.int .i64 0] 3)) := hM.others (KeepsOthers.alloc _ _)
    have c7 := hE1.l7.cell
    have hszW := hE.bel.size
    have hlt8 := hb.lt
    have hsz1 : (W.alloc (.cells #[.int .i64 0] 3)).heap.size = W.heap.size + 1 := by simp
    clear hlt hk hE hM hb
    gi_wp2_with fail
    generalize W.alloc (.cells #[.int .i64 0] 3) = W1 at *
    refine wpIn_rangeFunc_ownG rfl (by omega) (gf := 51) (lb := #[.pointer (some ⟨bn, 0, none⟩)]) rfl trivial (enters_of Try.func51 (by kernel_rfl) rfl)
      (each_stops (n - 1) (by omega) bn s (by omega) W1 hE1.ln) walksK_t walksK_b (Below.refl _ _) (fun _ => rfl)
      (fun pre W' => (pre <+: eachL s) ∧ EaS s w1 b5 b6 bn b7 A1 A2 c1 c2 W' ∧ Boxed W' b8' 3 (.int .i64 (k : Nat)) ∧ Boxed W' W.heap.size 3 (.int .i64 (pre.length : Nat)) ∧ Marks w.heap.size W.heap.size ds W')
      (fun c pre W' => ((c = .exit 2 ∧ k = 0 ∧ (pre.length : Int) = stop) ∧ EaS s w1 b5 b6 bn b7 A1 A2 c1 c2 W' ∧ Boxed W' b8' 3 (.int .i64 (k : Nat)) ∧ Boxed W' W.heap.size 3 (.int .i64 (pre.length : Nat)) ∧ Marks w.heap.size W.heap.size ds W') ∨ (c = .ret ∧ ¬ pre <+: eachL s))
      (OwnFrom.and (ownFrom_pure _ _) (OwnFrom.and (EaS.own (by omega)) (OwnFrom.and ownFrom_box (OwnFrom.and ownFrom_box (Marks.own.mono_B (by omega))))))
      (fun c => OwnFrom.or (OwnFrom.and (ownFrom_pure _ _) (OwnFrom.and (EaS.own (by omega)) (OwnFrom.and ownFrom_box (OwnFrom.and ownFrom_box (Marks.own.mono_B (by omega)))))) (ownFrom_pure _ _))
      ⟨List.nil_prefix, hE1, hb1, bi, hM1⟩
      (fun x => ⟨#[.string ⟨s.toArray⟩, .int .i64 stop, undef, .pointer (some ⟨b3, 0, none⟩), .pointer (some ⟨b4, 0, none⟩), .pointer (some ⟨b5, 0, none⟩), .pointer (some ⟨b6, 0, none⟩), .pointer (some ⟨b7, 0, none⟩), .pointer (some ⟨b8', 0, none⟩), .pointer (some ⟨W.heap.size, 0, none⟩), .int .i64 (x.1 : Nat), .int .i32 (x.2 : Nat), u12, u13, u14, u15, u16, u17, u18, u19, u20, u21, u22, u23, u24, u25, u26, u27, u28, u29, u30, .int .i64 (k : Nat), .bool true, u33, u34, .func (.func 51) #[] #[.pointer (some ⟨bn, 0, none⟩)], .int .i64 (x.1 : Nat), .int .i32 (x.2 : Nat), u38, u39, u40, u41, u42, u43, u44, u45, u46, u47, u48, u49, u50, u51, u52, u53, u54, u55, u56, u57, u58, u59, u60, u61, u62, u63, u64, u65, u66, u67, u68, u69, u70, u71, u72, u73, u74, u75, u76, u77, u78, u79, u80, u81, u82, u83, u84, u85, u86, u87, u88, u89, u90, u91, u92, u93, u94, u95, u96, u97, u98, u99, u100, u101, u102, u103, u104, u105, u106, u107, u108, u109, u110, u111, u112, u113, u114, u115, u116, u117, u118, u119, u120, u121, u122, u123], []⟩)
      ?assign ?body ?done ?stop
    case assign =>
      intro l x W' K hK
      dsimp only [encs]
      gi_wp2
      exact hK
    case body =>
      rintro l pre x W' ⟨hp, hE2, hb2, hi2, hM2⟩ hlen
      obtain ⟨g1, o1, rfl, hg1, hc1⟩ := rv_at hv1 hlen
      obtain ⟨g2, o2, rfl, hg2, hc2⟩ := rv_at hv2 hlen
      have e1 := (hE2.bel.cell (p := ⟨g1, o1 + pre.length, none⟩) hg1).trans hc1
      have e2 := (hE2.bel.cell (p := ⟨g2, o2 + pre.length, none⟩) hg2).trans hc2
      have e3 := (hE2.bel.cell (p := ⟨b3, 0, none⟩) bS.lt).trans bS.cell
      have e4 := (hE2.bel.cell (p := ⟨b4, 0, none⟩) bR.lt).trans bR.cell
      have e4f := (hE2.bel.frozen (p := ⟨b4, 0, none⟩) bR.lt).trans bR.frozen
      have c5 := hE2.l5.cell
      have c6 := hE2.l6.cell
      have c8 := hb2.cell
      have c9 := hi2.cell
      have f9 := hi2.frozen
      have d0 : decide (((eachL s).length : Int) ≤ (pre.length : Int)) = false := decide_eq_false (by omega)
      have d0' : decide ((eachL s).length ≤ pre.length) = false := decide_eq_false (by omega)
      have hpn : (pre.length : Int) < ((eachL s).length : Int) := by omega
      have hpl : (pre.length : Int) ≤ 2147483647 := by omega
      have HX := Lib.hid (fun h : pre ++ [x] <+: eachL s => pre_not hlen h)
      have HP := Lib.hid (pre_at hp hlen)
      obtain ⟨y, hy⟩ : ∃ y, (eachL s)[pre.length] = y := ⟨_, rfl⟩
      rw [hy] at e1 e2 HX HP
      have HE2 := Lib.hid hE2
      have HB2 := Lib.hid hb2
      have HI2 := Lib.hid hi2
      have HM2 := Lib.hid hM2
      clear hy hp hE2 hb2 hi2 hM2 hv1 hv2 hc1 hc2 hQ hE1 hb1 hM1 bi
      obtain ⟨x1, x2⟩ := x
      obtain ⟨y1, y2⟩ := y
      dsimp only at *
      by_cases q1 : x1 = y1
      · subst q1
        have t2 : ((x1 : Int) != (x1 : Int)) = false := by simp
        by_cases q2 : x2 = y2
        · subst q2
          have t3 : ((x2 : Int) != (x2 : Int)) = false := by simp
          have n3 : b3 < W.heap.size := by have := bS.lt; omega
          have hfin : ∀ V, V = W'.setCell ⟨W.heap.size, 0, none⟩ (.int .i64 ((pre ++ [(x1, x2)]).length : Nat)) → KeepsOthers W' V ∧ (pre ++ [(x1, x2)] <+: eachL s) ∧ EaS s w1 b5 b6 bn b7 (some ⟨g1, o1, none⟩) (some ⟨g2, o2, none⟩) c1 c2 V ∧ Boxed V b8' 3 (.int .i64 (k : Nat)) ∧ Boxed V W.heap.size 3 (.int .i64 ((pre ++ [(x1, x2)]).length : Nat)) ∧ Marks w.heap.size W.heap.size ds V := by
            rintro V rfl
            exact ⟨KeepsOthers.setCell _ _ _, HP.out, HE2.out.set hszW (by omega) (by omega) (by omega) (by omega) _, HB2.out.other (by omega) _, HI2.out.set _, HM2.out.others (KeepsOthers.setCell _ _ _)⟩
          have HF := Lib.hid hfin
          have hlen1 : (pre ++ [(x1, x2)]).length = pre.length + 1 := by simp
          have HL := Lib.hid hlen1
          clear hfin hlen1 HP HX HE2 HB2 HI2 HM2
          obtain ⟨p1, hp1⟩ : ∃ p1 : Nat, pre.length + 1 = p1 := ⟨_, rfl⟩
          have hp1I : (pre.length : Int) + 1 = (p1 : Int) := by omega
          have hwp : IntKind.i64.wrap (p1 : Int) = (p1 : Int) := IntWalk.i64_in _ (by omega)
          rw [hp1] at HL
          rw [HL.out] at HF
          by_cases k0 : k = 0
          · have t6 : ((k : Int) == 0) = true := by simp; omega
            have K0 := Lib.hid k0
            clear k0
            by_cases qs : (p1 : Int) = stop
            · have t5 : ((p1 : Int) == stop) = true := by simpa using qs
              have HS := Lib.hid qs
              clear qs
              gi_wp2
              obtain ⟨z1, z2⟩ := HF.out _ rfl
              refine ⟨z1.from _, .inl ?_⟩
              try dsimp only
              rw [HL.out]
              exact ⟨⟨rfl, K0.out, HS.out⟩, z2.2⟩
            · have t5 : ((p1 : Int) == stop) = false := by simpa using qs
              clear qs
              gi_wp2
              obtain ⟨z1, z2⟩ := HF.out _ rfl
              refine ⟨z1.from _, z1.walks, ?_⟩
              try dsimp only
              rw [HL.out]; exact z2
          · have t6 : ((k : Int) == 0) = false := by simp; omega
            clear k0
            gi_wp2
            obtain ⟨z1, z2⟩ := HF.out _ rfl
            refine ⟨z1.from _, z1.walks, ?_⟩
            try dsimp only
            rw [HL.out]; exact z2
        · have t3 : ((x2 : Int) != (y2 : Int)) = true := by simp; omega
          have HN : Hid (¬ pre ++ [(x1, x2)] <+: eachL s) := Lib.hid (fun h => q2 (congrArg Prod.snd (HX.out h)))
          clear HX HP q2
          gi_wp2
          exact ⟨(KeepsOthers.setCell _ _ _).from _, .inr ⟨rfl, HN.out⟩⟩
      · have t2 : ((x1 : Int) != (y1 : Int)) = true := by simp; omega
        have HN : Hid (¬ pre ++ [(x1, x2)] <+: eachL s) := Lib.hid (fun h => q1 (congrArg Prod.fst (HX.out h)))
        clear HX HP q1
        gi_wp2
        exact ⟨(KeepsOthers.setCell _ _ _).from _, .inr ⟨rfl, HN.out⟩⟩
    case done =>
      rintro D xs W' hD rfl ⟨hp, hE2, hb2, hi2, hM2⟩ hDd
      have c5 := hE2.l5.cell
      have c8 := hb2.cell
      have c9 := hi2.cell
      have c81 := (hb2.alloc (.cells #[.int .i64 (k : Nat)] 3)).cell
      have t5 : (((eachL s).length : Int) != ((eachL s).length : Int)) = false := by simp
      have hDlt := (Array.getElem?_eq_some_iff.1 hDd).1
      have hszW' := hE2.bel.size
      have HF := Lib.hid (next5 (.cells #[.int .i64 ((k : Int) + 1)] 3) hE2 (hM2.push (by omega) (by omega) hDd) hDlt)
      have hbn := Boxed.new W' 3 (.int .i64 ((k : Int) + 1))
      have cn := hbn.cell
      have HN := Lib.hid hbn
      have HLE := Lib.hid (show m ≤ W'.heap.size by omega)
      have hk1 : IntKind.i64.wrap ((k : Int) + 1) = (k : Int) + 1 := IntWalk.i64_in _ (by have := HK.out; omega)
      clear hp hE2 hb2 hi2 hM2 hDd hbn hQ hE1 hb1 hM1 bi
      gi_wp2
      refine ⟨⟨_, _, _, _, _, _, _, _, _, _, _, _, _, _, _, _, _, _, _, _, _, _, _, _, _, _, _, _, _, _, _, _, _, _, _, _, _, _, _, _, _, _, _, _, _, _, _, _, _, _, _, _, _, _, _, _, _, _, _, _, _, _, _, _, _, _, _, _, _, _, _, _, _, _, _, _, _, _, _, _, _, _, _, _, _, _, _, _, _, _, _, _, _, _, _, _, _, _, _, _, _, _, _, _, _, _, _, _, _, _, _, _, _, _, _, _, k + 1, W'.heap.size, _, rfl, by have := HK.out; omega, HLE.out, HN.out, HF.out.1, HF.out.2, rfl⟩, ?_⟩
      simp only [mu5]
      simp [cn, intOf]
      have := HK.out
      omega
    case stop =>
      rintro D c pre W' hD hpre (⟨⟨rfl, hk0, hst⟩, hE2, hb2, hi2, hM2⟩ | ⟨rfl, hno⟩) hDd
      · have e3 := (hE2.bel.cell (p := ⟨b3, 0, none⟩) bS.lt).trans bS.cell
        have c5 := hE2.l5.cell
        have c8 := hb2.cell
        have c9 := hi2.cell
        have t6 : ((k : Int) == 0) = true := by simp; omega
        have t7 : ((pre.length : Int) == stop) = true := by simpa using hst
        obtain ⟨g, hg⟩ : ∃ g, ((pre.length : Int) != ((eachL s).length : Int)) = g := ⟨_, rfl⟩
        have hDlt := (Array.getElem?_eq_some_iff.1 hDd).1
        have hszW' := hE2.bel.size
        clear hst hk0
        have HF := Lib.hid (next5 (.cells #[.int .i64 ((k : Int) + 1)] 3) hE2 (hM2.push (by omega) (by omega) hDd) hDlt)
        have hbn := Boxed.new W' 3 (.int .i64 ((k : Int) + 1))
        have cn := hbn.cell
        have HN := Lib.hid hbn
        have HLE := Lib.hid (show m ≤ W'.heap.size by omega)
        have hk1 : IntKind.i64.wrap ((k : Int) + 1) = (k : Int) + 1 := IntWalk.i64_in _ (by have := HK.out; omega)
        clear hE2 hb2 hi2 hM2 hDd hbn hQ hE1 hb1 hM1 bi
        cases g
        all_goals
          gi_wp2
          refine ⟨⟨_, _, _, _, _, _, _, _, _, _, _, _, _, _, _, _, _, _, _, _, _, _, _, _, _, _, _, _, _, _, _, _, _, _, _, _, _, _, _, _, _, _, _, _, _, _, _, _, _, _, _, _, _, _, _, _, _, _, _, _, _, _, _, _, _, _, _, _, _, _, _, _, _, _, _, _, _, _, _, _, _, _, _, _, _, _, _, _, _, _, _, _, _, _, _, _, _, _, _, _, _, _, _, _, _, _, _, _, _, _, _, _, _, _, _, _, k + 1, W'.heap.size, _, rfl, by have := HK.out; omega, HLE.out, HN.out, HF.out.1, HF.out.2, rfl⟩, ?_⟩
          simp only [mu5]
          simp [cn, intOf]
          have := HK.out
          omega
      · exact absurd hpre hno
  · have t1 : decide ((k : Int) < 2) = false := decide_eq_false (by omega)
    have HQ := Lib.hid (hQ)
    have HE := Lib.hid hE
    have HM := Lib.hid hM
    clear hQ hE hM
    gi_wp2_with fail
    exact HQ.out _ _ _ _ _ _ _ _ _ _ _ _ _ _ _ _ _ _ _ _ _ _ _ _ _ _ _ _ _ _ _ _ _ _ _ _ _ _ _ _ _ _ _ _ _ _ _ _ _ _ _ _ _ _ _ _ _ _ _ _ _ _ _ _ _ _ _ _ _ _ _ _ _ _ _ _ _ _ _ _ _ _ _ _ _ _ _ _ _ _ _ _ _ _ _ _ _ _ _ _ _ _ _ _ _ _ _ _ _ _ _ _ _ _ _ _ _ _ HE.out HM.out

set_option maxRecDepth 100000 in
set_option maxHeartbeats 4000000 in
theorem each_twice (n : Nat) (h9 : 9 ≤ n) (stop : Int) (s : List UInt8) (hs : (eachL s).length ≤ 2147483647) (hsl : s.length ≤ 2147483647) (w w1 : World) (hw1 : w.heap.size ≤ w1.heap.size) (b3 b4 b5 b6 b7 bn m : Nat) (A1 A2 : Option Addr) (c1 c2 : Nat)
    (bS : Boxed w1 b3 3 (.int .i64 stop)) (bR : Boxed w1 b4 4 (.bool false)) (hv1 : RV w1 w1.heap.size A1 (eachL s).length ((eachL s).map fun x => rv_ x.2)) (hv2 : RV w1 w1.heap.size A2 (eachL s).length ((eachL s).map fun x => iv_ x.1))
    (hm : w1.heap.size ≤ m ∧ b5 < m ∧ b6 < m ∧ bn < m ∧ b7 < m)
    (b12 : Nat) (h12 : m ≤ b12) (u8 u9 u10 u11 u12 u13 u14 u15 u16 u17 u18 u19 u20 u21 u22 u23 u24 u25 u26 u27 u28 u29 u30 u31 u32 u33 u34 u35 u36 u37 u38 u39 u40 u41 u42 u43 u44 u45 u46 u47 u48 u49 u50 u51 u52 u53 u54 u55 u56 u57 u58 u59 u60 u61 u62 u63 u64 u65 u66 u67 u68 u69 u70 u71 u72 u73 u74 u75 u76 u77 u78 u79 u80 u81 u82 u83 u84 u85 u86 u87 u88 u89 u90 u91 u92 u93 u94 u95 u96 u97 u98 u99 u100 u101 u102 u103 u104 u105 u106 u107 u108 u109 u110 u111 u112 u113 u114 u115 u116 u117 u118 u119 u120 u121 u122 u123 : Value) (ds : List Deferred) (W0 : World) (hE0 : EaS s w1 b5 b6 bn b7 A1 A2 c1 c2 W0) (hb0 : Boxed W0 b12 3 (.int .i64 0)) (hM0 : Marks w.heap.size W0.heap.size ds W0) (Q : Exit → Act → World → Prop)
    (hQd : ∀ (D : Nat) (W : World), W0.heap.size ≤ D → EaS s w1 b5 b6 bn b7 A1 A2 c1 c2 W → Boxed W b12 3 (.int .i64 ((eachL s).length : Nat)) → Marks w.heap.size (D + 1) ({ target := .collected D, args := #[] } :: ds) W → Q .normal ⟨#[.string ⟨s.toArray⟩, .int .i64 stop, undef, .pointer (some ⟨b3, 0, none⟩), .pointer (some ⟨b4, 0, none⟩), .pointer (some ⟨b5, 0, none⟩), .pointer (some ⟨b6, 0, none⟩), .pointer (some ⟨b7, 0, none⟩), u8, u9, u10, u11, .pointer (some ⟨b12, 0, none⟩), u13, u14, u15, u16, u17, u18, u19, u20, u21, u22, u23, u24, u25, u26, u27, u28, u29, u30, u31, u32, u33, u34, u35, u36, u37, u38, u39, u40, u41, u42, u43, u44, u45, u46, u47, u48, u49, u50, u51, u52, u53, u54, u55, u56, u57, u58, u59, u60, u61, u62, u63, u64, u65, u66, u67, u68, u69, u70, u71, u72, u73, u74, u75, u76, u77, u78, u79, u80, u81, .func (.func 51) #[] #[.pointer (some ⟨bn, 0, none⟩)], u83, u84, u85, u86, u87, u88, u89, u90, u91, u92, u93, u94, u95, u96, u97, u98, u99, u100, u101, u102, u103, u104, u105, u106, u107, u108, u109, u110, u111, u112, u113, u114, u115, u116, u117, u118, u119, u120, u121, u122, u123], { target := .collected D, args := #[] } :: ds⟩ W)
    (hQs : ∀ (D : Nat) (W : World), W0.heap.size ≤ D → EaS s w1 b5 b6 bn b7 A1 A2 c1 c2 W → Boxed W b12 3 (.int .i64 2) → Marks w.heap.size (D + 1) ({ target := .collected D, args := #[] } :: ds) W → Q (.exit 4) ⟨#[.string ⟨s.toArray⟩, .int .i64 stop, undef, .pointer (some ⟨b3, 0, none⟩), .pointer (some ⟨b4, 0, none⟩), .pointer (some ⟨b5, 0, none⟩), .pointer (some ⟨b6, 0, none⟩), .pointer (some ⟨b7, 0, none⟩), u8, u9, u10, u11, .pointer (some ⟨b12, 0, none⟩), u13, u14, u15, u16, u17, u18, u19, u20, u21, u22, u23, u24, u25, u26, u27, u28, u29, u30, u31, u32, u33, u34, u35, u36, u37, u38, u39, u40, u41, u42, u43, u44, u45, u46, u47, u48, u49, u50, u51, u52, u53, u54, u55, u56, u57, u58, u59, u60, u61, u62, u63, u64, u65, u66, u67, u68, u69, u70, u71, u72, u73, u74, u75, u76, u77, u78, u79, u80, u81, .func (.func 51) #[] #[.pointer (some ⟨bn, 0, none⟩)], u83, u84, u85, u86, u87, u88, u89, u90, u91, u92, u93, u94, u95, u96, u97, u98, u99, u100, u101, u102, u103, u104, u105, u106, u107, u108, u109, u110, u111, u112, u113, u114, u115, u116, u117, u118, u119, u120, u121, u122, u123], { target := .collected D, args := #[] } :: ds⟩ W) :
    twice5.wpIn Fence.wide n Try.prog Q ⟨#[.string ⟨s.toArray⟩, .int .i64 stop, undef, .pointer (some ⟨b3, 0, none⟩), .pointer (some ⟨b4, 0, none⟩), .pointer (some ⟨b5, 0, none⟩), .pointer (some ⟨b6, 0, none⟩), .pointer (some ⟨b7, 0, none⟩), u8, u9, u10, u11, .pointer (some ⟨b12, 0, none⟩), u13, u14, u15, u16, u17, u18, u19, u20, u21, u22, u23, u24, u25, u26, u27, u28, u29, u30, u31, u32, u33, u34, u35, u36, u37, u38, u39, u40, u41, u42, u43, u44, u45, u46, u47, u48, u49, u50, u51, u52, u53, u54, u55, u56, u57, u58, u59, u60, u61, u62, u63, u64, u65, u66, u67, u68, u69, u70, u71, u72, u73, u74, u75, u76, u77, u78, u79, u80, u81, .func (.func 51) #[] #[.pointer (some ⟨bn, 0, none⟩)], u83, u84, u85, u86, u87, u88, u89, u90, u91, u92, u93, u94, u95, u96, u97, u98, u99, u100, u101, u102, u103, u104, u105, u106, u107, u108, u109, u110, u111, u112, u113, u114, u115, u116, u117, u118, u119, u120, u121, u122, u123], ds⟩ W0 := by
  conv => arg 4; whnf
  have hsz0 := hE0.bel.size
  refine wpIn_rangeFunc_ownH rfl (by omega) (gf := 51) (lb := #[.pointer (some ⟨bn, 0, none⟩)]) rfl trivial (enters_of Try.func51 (by kernel_rfl) rfl)
    (each_stops (n - 1) (by omega) bn s (by omega) W0 hE0.ln) walksK_t walksK_b (Below.refl _ _) (fun _ => rfl)
    (fun pre W => EaS s w1 b5 b6 bn b7 A1 A2 c1 c2 W ∧ Boxed W b12 3 (.int .i64 (pre.length : Nat)) ∧ Marks w.heap.size W0.heap.size ds W)
    (fun c pre W => c = .exit 4 ∧ EaS s w1 b5 b6 bn b7 A1 A2 c1 c2 W ∧ Boxed W b12 3 (.int .i64 2) ∧ Marks w.heap.size W0.heap.size ds W)
    (OwnFrom.and (EaS.own (by omega)) (OwnFrom.and ownFrom_box Marks.own))
    (fun c => OwnFrom.and (ownFrom_pure _ _) (OwnFrom.and (EaS.own (by omega)) (OwnFrom.and (ownFrom_box (f := fun _ => .int .i64 2)) Marks.own)))
    ⟨hE0, hb0, hM0⟩
    (fun x a' _ => a' = ⟨#[.string ⟨s.toArray⟩, .int .i64 stop, undef, .pointer (some ⟨b3, 0, none⟩), .pointer (some ⟨b4, 0, none⟩), .pointer (some ⟨b5, 0, none⟩), .pointer (some ⟨b6, 0, none⟩), .pointer (some ⟨b7, 0, none⟩), u8, u9, u10, u11, .pointer (some ⟨b12, 0, none⟩), u13, u14, u15, u16, u17, u18, u19, u20, u21, u22, u23, u24, u25, u26, u27, u28, u29, u30, u31, u32, u33, u34, u35, u36, u37, u38, u39, u40, u41, u42, u43, u44, u45, u46, u47, u48, u49, u50, u51, u52, u53, u54, u55, u56, u57, u58, u59, u60, u61, u62, u63, u64, u65, u66, u67, u68, u69, u70, u71, u72, u73, u74, u75, u76, u77, u78, u79, u80, u81, .func (.func 51) #[] #[.pointer (some ⟨bn, 0, none⟩)], .int .i64 (x.1 : Nat), .int .i32 (x.2 : Nat), u85, u86, u87, u88, u89, u90, u91, u92, u93, u94, u95, u96, u97, u98, u99, u100, u101, u102, u103, u104, u105, u106, u107, u108, u109, u110, u111, u112, u113, u114, u115, u116, u117, u118, u119, u120, u121, u122, u123], []⟩)
    (fun x a' _ X Y row hs hg hr => hs)
    ?assign ?body ?done ?stop
  case assign =>
    rintro l pre x W K hi hK
    dsimp only [encs]
    gi_wp2
    exact hK _ _ (KeepsFrom.refl _ _) (KeepsWalks.refl _) hi rfl
  case done =>
    rintro D xs W hD rfl ⟨hE, hb, hM⟩ hDd
    exact hQd D W hD hE hb (hM.push hD (by omega) hDd)
  case stop =>
    rintro D c pre W hD hpre ⟨rfl, hE, hb, hM⟩ hDd
    have HQ := Lib.hid (hQs D W hD hE hb (hM.push hD (by omega) hDd))
    clear hQd hQs
    gi_wp2_with fail
    exact HQ.out
  case body =>
    rintro l pre x a' W hl ⟨r, hr⟩ ⟨hE, hb, hM⟩ ha hlen
    subst ha
    obtain ⟨x1, x2⟩ := x
    dsimp only at *
    have hllt := (Array.getElem?_eq_some_iff.1 hr).1
    have bi := Boxed.new W 3 (.int .i64 0)
    have hE1 := hE.alloc (.cells #[.int .i64 0] 3)
    have hb1 := hb.alloc (.cells #[.int .i64 0] 3)
    have hM1 : Marks w.heap.size W0.heap.size ds (W.alloc (.cells #[.int .i64 0] 3)) := hM.others (KeepsOthers.alloc _ _)
    have hK1 : KeepsFrom 0 W (W.alloc (.cells #[.int .i64 0] 3)) := (KeepsOthers.alloc _ _).from _
    have hr' : (W.alloc (.cells #[.int .i64 0] 3)).heap[l]? = some (.loop r) := (Below.heap_alloc W _ l hllt).trans hr
    have c7 := hE1.l7.cell
    have hszW := hE.bel.size
    have hlt12 := hb.lt
    have hsz1 : (W.alloc (.cells #[.int .i64 0] 3)).heap.size = W.heap.size + 1 := by simp
    have hpl : (pre.length : Int) ≤ 2147483647 := by omega
    clear hE hM hb hr hE0 hb0 hM0 hQd hQs
    gi_wp2_with fail
    generalize W.alloc (.cells #[.int .i64 0] 3) = W1 at *
    refine wpIn_rangeFunc_ownN (l₀ := l) (r₀ := r) rfl hr' (by omega) (gf := 51) (lb := #[.pointer (some ⟨bn, 0, none⟩)]) rfl trivial (enters_of Try.func51 (by kernel_rfl) rfl)
      ((each_stops (n - 1 - 1 - 1) (by omega) bn s (by omega) W1 hE1.ln).inRound l) walksK_t walksK_b (Below.refl _ _) (fun _ => rfl)
      (fun pre' W' => (pre' <+: eachL s) ∧ EaS s w1 b5 b6 bn b7 A1 A2 c1 c2 W' ∧ Boxed W' b12 3 (.int .i64 (pre.length : Nat)) ∧ Boxed W' W.heap.size 3 (.int .i64 (pre'.length : Nat)) ∧ Marks w.heap.size W0.heap.size ds W' ∧ KeepsFrom 0 W W')
      (fun c pre' W' => (c = .exit 6 ∧ EaS s w1 b5 b6 bn b7 A1 A2 c1 c2 W' ∧ Boxed W' b12 3 (.int .i64 (pre.length : Nat)) ∧ Marks w.heap.size W0.heap.size ds W' ∧ KeepsFrom 0 W W') ∨ (c = .ret ∧ ¬ pre' <+: eachL s))
      (OwnFrom.and (ownFrom_pure _ _) (OwnFrom.and (EaS.own (by omega)) (OwnFrom.and (ownFrom_box (f := fun _ => .int .i64 (pre.length : Nat))) (OwnFrom.and ownFrom_box (OwnFrom.and (Marks.own.mono_B (by omega)) (ownFrom_keepsFrom (by omega)))))))
      (fun c => OwnFrom.or (OwnFrom.and (ownFrom_pure _ _) (OwnFrom.and (EaS.own (by omega)) (OwnFrom.and (ownFrom_box (f := fun _ => .int .i64 (pre.length : Nat))) (OwnFrom.and (Marks.own.mono_B (by omega)) (ownFrom_keepsFrom (by omega)))))) (ownFrom_pure _ _))
      ⟨List.nil_prefix, hE1, hb1, bi, hM1, hK1⟩
      (fun y a'' _ => a'' = ⟨#[.string ⟨s.toArray⟩, .int .i64 stop, undef, .pointer (some ⟨b3, 0, none⟩), .pointer (some ⟨b4, 0, none⟩), .pointer (some ⟨b5, 0, none⟩), .pointer (some ⟨b6, 0, none⟩), .pointer (some ⟨b7, 0, none⟩), u8, u9, u10, u11, .pointer (some ⟨b12, 0, none⟩), .pointer (some ⟨W.heap.size, 0, none⟩), .int .i64 (y.1 : Nat), .int .i32 (y.2 : Nat), u16, u17, u18, u19, u20, u21, u22, u23, u24, u25, u26, u27, u28, u29, u30, u31, u32, u33, u34, u35, u36, u37, u38, u39, u40, u41, u42, u43, u44, u45, u46, u47, u48, u49, u50, u51, u52, u53, u54, u55, u56, u57, u58, u59, u60, u61, u62, u63, u64, u65, u66, u67, u68, u69, u70, u71, u72, u73, u74, u75, u76, u77, u78, u79, u80, u81, .func (.func 51) #[] #[.pointer (some ⟨bn, 0, none⟩)], .int .i64 (x1 : Nat), .int .i32 (x2 : Nat), .func (.func 51) #[] #[.pointer (some ⟨bn, 0, none⟩)], .int .i64 (y.1 : Nat), .int .i32 (y.2 : Nat), u88, u89, u90, u91, u92, u93, u94, u95, u96, u97, u98, u99, u100, u101, u102, u103, u104, u105, u106, u107, u108, u109, u110, u111, u112, u113, u114, u115, u116, u117, u118, u119, u120, u121, u122, u123], []⟩)
      (fun y a'' _ X Y row hs hg hr => hs)
      ?assign2 ?body2 ?done2 ?stop2
    case assign2 =>
      rintro l2 pre' y W' K hi hK
      dsimp only [encs]
      gi_wp2
      exact hK _ _ (KeepsFrom.refl _ _) (KeepsWalks.refl _) hi rfl
    case body2 =>
      rintro l2 pre' y a'' W' _ _ ⟨hp, hE2, hb2, hi2, hM2, hKF⟩ ha hlen2
      subst ha
      obtain ⟨g1, o1, rfl, hg1, hc1⟩ := rv_at hv1 hlen2
      obtain ⟨g2, o2, rfl, hg2, hc2⟩ := rv_at hv2 hlen2
      have e1 := (hE2.bel.cell (p := ⟨g1, o1 + pre'.length, none⟩) hg1).trans hc1
      have e2 := (hE2.bel.cell (p := ⟨g2, o2 + pre'.length, none⟩) hg2).trans hc2
      have e4 := (hE2.bel.cell (p := ⟨b4, 0, none⟩) bR.lt).trans bR.cell
      have e4f := (hE2.bel.frozen (p := ⟨b4, 0, none⟩) bR.lt).trans bR.frozen
      have c5 := hE2.l5.cell
      have c6 := hE2.l6.cell
      have c9 := hi2.cell
      have f9 := hi2.frozen
      have d0 : decide (((eachL s).length : Int) ≤ (pre'.length : Int)) = false := decide_eq_false (by omega)
      have d0' : decide ((eachL s).length ≤ pre'.length) = false := decide_eq_false (by omega)
      have hpn : (pre'.length : Int) < ((eachL s).length : Int) := by omega
      have hpl' : (pre'.length : Int) ≤ 2147483647 := by omega
      have HX := Lib.hid (fun h : pre' ++ [y] <+: eachL s => pre_not hlen2 h)
      have HP := Lib.hid (pre_at hp hlen2)
      obtain ⟨z, hz⟩ : ∃ z, (eachL s)[pre'.length] = z := ⟨_, rfl⟩
      rw [hz] at e1 e2 HX HP
      have HE2 := Lib.hid hE2
      have HB2 := Lib.hid hb2
      have HI2 := Lib.hid hi2
      have HM2 := Lib.hid hM2
      have HKF := Lib.hid hKF
      clear hz hp hE2 hb2 hi2 hM2 hv1 hv2 hc1 hc2 hKF hE1 hb1 hM1 bi hK1 hr'
      obtain ⟨y1, y2⟩ := y
      obtain ⟨z1, z2⟩ := z
      dsimp only at *
      by_cases q1 : y1 = z1
      · subst q1
        have t2 : ((y1 : Int) != (y1 : Int)) = false := by simp
        by_cases q2 : y2 = z2
        · subst q2
          have t3 : ((y2 : Int) != (y2 : Int)) = false := by simp
          have hfin : ∀ V, V = W'.setCell ⟨W.heap.size, 0, none⟩ (.int .i64 ((pre' ++ [(y1, y2)]).length : Nat)) → KeepsOthers W' V ∧ (pre' ++ [(y1, y2)] <+: eachL s) ∧ EaS s w1 b5 b6 bn b7 (some ⟨g1, o1, none⟩) (some ⟨g2, o2, none⟩) c1 c2 V ∧ Boxed V b12 3 (.int .i64 (pre.length : Nat)) ∧ Boxed V W.heap.size 3 (.int .i64 ((pre' ++ [(y1, y2)]).length : Nat)) ∧ Marks w.heap.size W0.heap.size ds V ∧ KeepsFrom 0 W V := by
            rintro V rfl
            exact ⟨KeepsOthers.setCell _ _ _, HP.out, HE2.out.set hszW (by omega) (by omega) (by omega) (by omega) _, HB2.out.other (by omega) _, HI2.out.set _, HM2.out.others (KeepsOthers.setCell _ _ _), HKF.out.trans ((KeepsOthers.setCell _ _ _).from _)⟩
          have HF := Lib.hid hfin
          have hlen1 : (pre' ++ [(y1, y2)]).length = pre'.length + 1 := by simp
          have HL := Lib.hid hlen1
          clear hfin hlen1 HP HX HE2 HB2 HI2 HM2 HKF
          obtain ⟨p1, hp1⟩ : ∃ p1 : Nat, pre'.length + 1 = p1 := ⟨_, rfl⟩
          have hp1I : (pre'.length : Int) + 1 = (p1 : Int) := by omega
          have hwp : IntKind.i64.wrap (p1 : Int) = (p1 : Int) := IntWalk.i64_in _ (by omega)
          rw [hp1] at HL
          rw [HL.out] at HF
          obtain ⟨g, hg⟩ : ∃ g, ((p1 : Int) == 3) = g := ⟨_, rfl⟩
          cases g
          · gi_wp2
            obtain ⟨v1, v2⟩ := HF.out _ rfl
            refine ⟨v1.from _, v1.walks, ?_⟩
            try dsimp only
            rw [HL.out]; exact v2
          · gi_wp2
            obtain ⟨v1, v2⟩ := HF.out _ rfl
            exact ⟨v1.from _, .inl ⟨rfl, v2.2.1, v2.2.2.1, v2.2.2.2.2⟩⟩
        · have t3 : ((y2 : Int) != (z2 : Int)) = true := by simp; omega
          have HN : Hid (¬ pre' ++ [(y1, y2)] <+: eachL s) := Lib.hid (fun h => q2 (congrArg Prod.snd (HX.out h)))
          clear HX HP q2
          gi_wp2
          exact ⟨(KeepsOthers.setCell _ _ _).from _, .inr ⟨rfl, HN.out⟩⟩
      · have t2 : ((y1 : Int) != (z1 : Int)) = true := by simp; omega
        have HN : Hid (¬ pre' ++ [(y1, y2)] <+: eachL s) := Lib.hid (fun h => q1 (congrArg Prod.fst (HX.out h)))
        clear HX HP q1
        gi_wp2
        exact ⟨(KeepsOthers.setCell _ _ _).from _, .inr ⟨rfl, HN.out⟩⟩
    case done2 =>
      rintro xs W' rfl ⟨hp, hE2, hb2, hi2, hM2, hKF⟩
      clear hp hi2
      have c12 := hb2.cell
      have f12 := hb2.frozen
      have hfin : ∀ V, V = W'.setCell ⟨b12, 0, none⟩ (.int .i64 ((pre ++ [(x1, x2)]).length : Nat)) → KeepsOthers W V ∧ EaS s w1 b5 b6 bn b7 A1 A2 c1 c2 V ∧ Boxed V b12 3 (.int .i64 ((pre ++ [(x1, x2)]).length : Nat)) ∧ Marks w.heap.size W0.heap.size ds V := by
        rintro V rfl
        exact ⟨(KeepsFrom.others hKF).trans (KeepsOthers.setCell _ _ _), hE2.set (by omega) (by omega) (by omega) (by omega) (by omega) _, hb2.set _, hM2.others (KeepsOthers.setCell _ _ _)⟩
      have HF := Lib.hid hfin
      have hlen1 : (pre ++ [(x1, x2)]).length = pre.length + 1 := by simp
      have HL := Lib.hid hlen1
      obtain ⟨p1, hp1⟩ : ∃ p1 : Nat, pre.length + 1 = p1 := ⟨_, rfl⟩
      have hp1I : (pre.length : Int) + 1 = (p1 : Int) := by omega
      have hwp : IntKind.i64.wrap (p1 : Int) = (p1 : Int) := IntWalk.i64_in _ (by omega)
      rw [hp1] at HL
      rw [HL.out] at HF
      obtain ⟨g, hg⟩ : ∃ g, ((p1 : Int) == 2) = g := ⟨_, rfl⟩
      clear hfin hlen1 hE2 hb2 hM2 hKF hv1 hv2 hE1 hb1 hM1 bi hK1 hr'
      cases g
      · gi_wp2
        obtain ⟨v1, v2⟩ := HF.out _ rfl
        refine ⟨v1.from _, v1.walks, ?_⟩
        try dsimp only
        rw [HL.out]; exact v2
      · have HG := Lib.hid (show p1 = 2 by have := eq_of_beq hg; omega)
        gi_wp2
        obtain ⟨v1, v2, v3, v4⟩ := HF.out _ rfl
        refine ⟨v1.from _, rfl, v2, ?_, v4⟩
        have v3 := v3
        rw [HG.out] at v3 ⊢
        exact v3
    case stop2 =>
      rintro c pre' W' hpre (⟨rfl, hE2, hb2, hM2, hKF⟩ | ⟨rfl, hno⟩)
      · have c12 := hb2.cell
        have f12 := hb2.frozen
        have hfin : ∀ V, V = W'.setCell ⟨b12, 0, none⟩ (.int .i64 ((pre ++ [(x1, x2)]).length : Nat)) → KeepsOthers W V ∧ EaS s w1 b5 b6 bn b7 A1 A2 c1 c2 V ∧ Boxed V b12 3 (.int .i64 ((pre ++ [(x1, x2)]).length : Nat)) ∧ Marks w.heap.size W0.heap.size ds V := by
          rintro V rfl
          exact ⟨(KeepsFrom.others hKF).trans (KeepsOthers.setCell _ _ _), hE2.set (by omega) (by omega) (by omega) (by omega) (by omega) _, hb2.set _, hM2.others (KeepsOthers.setCell _ _ _)⟩
        have HF := Lib.hid hfin
        have hlen1 : (pre ++ [(x1, x2)]).length = pre.length + 1 := by simp
        have HL := Lib.hid hlen1
        obtain ⟨p1, hp1⟩ : ∃ p1 : Nat, pre.length + 1 = p1 := ⟨_, rfl⟩
        have hp1I : (pre.length : Int) + 1 = (p1 : Int) := by omega
        have hwp : IntKind.i64.wrap (p1 : Int) = (p1 : Int) := IntWalk.i64_in _ (by omega)
        rw [hp1] at HL
        rw [HL.out] at HF
        obtain ⟨g, hg⟩ : ∃ g, ((p1 : Int) == 2) = g := ⟨_, rfl⟩
        clear hfin hlen1 hE2 hb2 hM2 hKF hv1 hv2 hE1 hb1 hM1 bi hK1 hr'
        cases g
        · gi_wp2
          obtain ⟨v1, v2⟩ := HF.out _ rfl
          refine ⟨v1.from _, v1.walks, ?_⟩
          try dsimp only
          rw [HL.out]; exact v2
        · have HG := Lib.hid (show p1 = 2 by have := eq_of_beq hg; omega)
          gi_wp2
          obtain ⟨v1, v2, v3, v4⟩ := HF.out _ rfl
          refine ⟨v1.from _, rfl, v2, ?_, v4⟩
          have v3 := v3
          rw [HG.out] at v3 ⊢
          exact v3
      · exact absurd hpre hno
end Go.Proofs.Ytmdgopclcdmenaa
